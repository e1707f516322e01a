/- The text of a room. -/
import Derived.Test.YtpcnpmhpelbndaaDoorTd
import Derived.Test.YtpcnpmhpelbndaaDoorRy
namespace Go.Proofs.YtpcnpmhpelbndaaDoor.Vx
open Go Go.RowKit Fl
set_option maxRecDepth 100000
set_option maxHeartbeats 4000000
set_option linter.unusedSimpArgs false
set_option linter.unusedVariables false
def lett (w : Int) : UInt8 := if w = 0 then 110 else if w = 1 then 101 else if w = 2 then 115 else 119
theorem lett_ex {w : Int} (h : 0 ≤ w ∧ w ≤ 3) : ByteArray.extract ⟨#[110, 101, 115, 119]⟩ w.toNat (w + 1).toNat = bs [lett w] := by
  have : w = 0 ∨ w = 1 ∨ w = 2 ∨ w = 3 := by omega
  rcases this with rfl | rfl | rfl | rfl <;> rfl
/-- The row of a window. -/
def winT (u : Win) : List UInt8 := [lett u.w] ++ Lib.itoa u.a ++ [47] ++ hexN (tbits u.l) 8 ++ [10]
def winsT (r0 : List UInt8) (us : Nat → Win) : Nat → List UInt8
  | 0 => r0
  | k + 1 => winsT r0 us k ++ winT (us k)
def headT (r : Rom) : List UInt8 := Lib.itoa r.wi ++ [120] ++ Lib.itoa r.hi ++ [10]
def romT (r : Rom) (us : Nat → Win) (n : Nat) : List UInt8 := winsT (headT r) us n
def romS (r : Rom) (us : Nat → Win) (n : Nat) : List UInt8 := if vRoom r us n then romT r us n else []
theorem winT_len {u : Win} (h : u.sm) : (winT u).length ≤ 32 := by
  have := Lib.itoa_length_le u.a (by have := h.2; omega) (by have := h.2; omega)
  simp only [winT, List.length_append, hexN_len, List.length_cons, List.length_nil]
  omega
theorem headT_len {r : Rom} (h : r.sz) : (headT r).length ≤ 44 := by
  have a := Lib.itoa_length_le r.wi (by have := h.1; omega) (by have := h.1; omega)
  have b := Lib.itoa_length_le r.hi (by have := h.2; omega) (by have := h.2; omega)
  simp only [headT, List.length_append, List.length_cons, List.length_nil]
  omega
theorem winsT_len {r0 : List UInt8} {us : Nat → Win} : ∀ n, (∀ i, i < n → (us i).sm) → (winsT r0 us n).length ≤ r0.length + 32 * n
  | 0, _ => Nat.le_refl _
  | n + 1, h => by
    have := winsT_len (r0 := r0) n fun i hi => h i (by omega)
    have := winT_len (h n (by omega))
    simp only [winsT, List.length_append]
    omega
theorem RoomText_cv (r : Rom) (us : Nat → Win) (n cap : Nat) (f : Nat → List FV) (H : RomH r us n cap f) (hb : ∀ i, i < n → (us i).l < 4294967296) :
    CV Tryd.prog 16 [romV r n cap] [.rows n cap 3 f false] (fun v h => v = .f (.str (bs (romS r us n))) ∧ h = [.rows n cap 3 f false]) := by
  have cv := ValidRoom_cv r us n cap f H
  obtain ⟨hf, hcap, hn, ⟨_, _⟩, ⟨_, _⟩, hs⟩ := H
  cases hv : vRoom r us n
  all_goals rw [hv] at cv
  · refine cv_of_run 1000 sc16 sb16 48 [.tmp 2] tabOk (by kernel_rfl) Tryd.func16 rfl (by kernel_rfl) Tryd.ntmps16 rfl (by simp) rfl (by simp [bdL, SV.bd]) ?_
    simp (config := { maxSteps := 1000000 }) (disch := omega) only [go_sem, Int.reduceToNat, ↓reduceIte, Nat.reduceLT, Nat.reduceEqDiff, Nat.reduceAdd, Nat.reduceMul, Nat.reduceSub, Nat.reduceBEq, Nat.reduceLeDiff, reduceCtorEq, Nat.reduceLT, ↓Br_true, ↓Br_false, bind, pure, sc16, sb16, hv]
    repeat' (first | (with_reducible refine And.intro (by first | (unfold SOk; kernel_rfl) | (unfold SBOk; kernel_rfl) | (with_reducible assumption) | omega | assumption) ?_) | (with_reducible refine Br_intro (fun hc => ?_) (fun hc => ?_)) | ((have cc := cv; (first | ((first | refine callR (by rfl) (by rfl) (by rfl) cc ?_ | refine callM (by rfl) (by rfl) (by rfl) cc ?_ | refine callMo (by rfl) (by rfl) (by rfl) cc ?_); clear cc; rintro _ _ ⟨rfl, rfl⟩) | (refine callE (by rfl) cc (by rfl) ?_; clear cc))); simp (config := { maxSteps := 1000000 }) (disch := omega) only [go_sem, Int.reduceToNat, ↓reduceIte, Nat.reduceLT, Nat.reduceEqDiff, Nat.reduceAdd, Nat.reduceMul, Nat.reduceSub, Nat.reduceBEq, Nat.reduceLeDiff, reduceCtorEq, Nat.reduceLT, ↓Br_true, ↓Br_false, bind, pure, sc16, sb16, hv]) | ((with_reducible show WidN _ _ _ _ _ _ _ _); (first | refine widL (by decide) (by with_reducible assumption) ?_ | refine widL (by decide) (FWok_nn (by with_reducible assumption)) ?_ | refine widN (by decide) (fun c hc => ?_)); simp (config := { maxSteps := 1000000 }) (disch := omega) only [go_sem, Int.reduceToNat, ↓reduceIte, Nat.reduceLT, Nat.reduceEqDiff, Nat.reduceAdd, Nat.reduceMul, Nat.reduceSub, Nat.reduceBEq, Nat.reduceLeDiff, reduceCtorEq, Nat.reduceLT, ↓Br_true, ↓Br_false, bind, pure, sc16, sb16, hv]))
    simp [romS, hv]
  · obtain ⟨hz, h12, hw⟩ := vRoom_at hv
    have c1 := decimal_cv r.wi (by have := hz.1; omega) (by have := hz.1; omega)
    have c2 := decimal_cv r.hi (by have := hz.2; omega) (by have := hz.2; omega)
    have hl := headT_len hz
    have l1 := Lib.itoa_length_le r.wi (by have := hz.1; omega) (by have := hz.1; omega)
    have l2 := Lib.itoa_length_le r.hi (by have := hz.2; omega) (by have := hz.2; omega)
    have a1 := bs_add (Lib.itoa r.wi) [120]
    have a2 := bs_add (Lib.itoa r.wi ++ [120]) (Lib.itoa r.hi)
    have a3 : bs (Lib.itoa r.wi ++ [120] ++ Lib.itoa r.hi) ++ bs [10] = bs (headT r) := bs_add _ _
    have a4 : (Lib.itoa r.wi ++ [120] ++ Lib.itoa r.hi).length ≤ 43 := by simp; omega
    refine cv_of_run 1000 sc16 sb16 48 [.tmp 2] tabOk (by kernel_rfl) Tryd.func16 rfl (by kernel_rfl) Tryd.ntmps16 rfl (by simp) rfl (by simp [bdL, SV.bd]) ?_
    simp (config := { maxSteps := 1000000 }) (disch := omega) only [go_sem, Int.reduceToNat, ↓reduceIte, Nat.reduceLT, Nat.reduceEqDiff, Nat.reduceAdd, Nat.reduceMul, Nat.reduceSub, Nat.reduceBEq, Nat.reduceLeDiff, reduceCtorEq, Nat.reduceLT, ↓Br_true, ↓Br_false, bind, pure, sc16, sb16, hv]
    repeat' (first | (with_reducible refine And.intro (by first | (unfold SOk; kernel_rfl) | (unfold SBOk; kernel_rfl) | (with_reducible assumption) | omega | assumption) ?_) | (with_reducible refine Br_intro (fun hc => ?_) (fun hc => ?_)) | ((have cc := cv; (first | ((first | refine callR (by rfl) (by rfl) (by rfl) cc ?_ | refine callM (by rfl) (by rfl) (by rfl) cc ?_ | refine callMo (by rfl) (by rfl) (by rfl) cc ?_); clear cc; rintro _ _ ⟨rfl, rfl⟩) | (refine callE (by rfl) cc (by rfl) ?_; clear cc))); simp (config := { maxSteps := 1000000 }) (disch := omega) only [go_sem, Int.reduceToNat, ↓reduceIte, Nat.reduceLT, Nat.reduceEqDiff, Nat.reduceAdd, Nat.reduceMul, Nat.reduceSub, Nat.reduceBEq, Nat.reduceLeDiff, reduceCtorEq, Nat.reduceLT, ↓Br_true, ↓Br_false, bind, pure, sc16, sb16, hv, a1, a2, a3, List.length_append]) | ((have cc := c1; (first | ((first | refine callR (by rfl) (by rfl) (by rfl) cc ?_ | refine callM (by rfl) (by rfl) (by rfl) cc ?_ | refine callMo (by rfl) (by rfl) (by rfl) cc ?_); clear cc; rintro _ _ ⟨rfl, rfl⟩) | (refine callE (by rfl) cc (by rfl) ?_; clear cc))); simp (config := { maxSteps := 1000000 }) (disch := omega) only [go_sem, Int.reduceToNat, ↓reduceIte, Nat.reduceLT, Nat.reduceEqDiff, Nat.reduceAdd, Nat.reduceMul, Nat.reduceSub, Nat.reduceBEq, Nat.reduceLeDiff, reduceCtorEq, Nat.reduceLT, ↓Br_true, ↓Br_false, bind, pure, sc16, sb16, hv, a1, a2, a3, List.length_append]) | ((have cc := c2; (first | ((first | refine callR (by rfl) (by rfl) (by rfl) cc ?_ | refine callM (by rfl) (by rfl) (by rfl) cc ?_ | refine callMo (by rfl) (by rfl) (by rfl) cc ?_); clear cc; rintro _ _ ⟨rfl, rfl⟩) | (refine callE (by rfl) cc (by rfl) ?_; clear cc))); simp (config := { maxSteps := 1000000 }) (disch := omega) only [go_sem, Int.reduceToNat, ↓reduceIte, Nat.reduceLT, Nat.reduceEqDiff, Nat.reduceAdd, Nat.reduceMul, Nat.reduceSub, Nat.reduceBEq, Nat.reduceLeDiff, reduceCtorEq, Nat.reduceLT, ↓Br_true, ↓Br_false, bind, pure, sc16, sb16, hv, a1, a2, a3, List.length_append]) | ((with_reducible show WidN _ _ _ _ _ _ _ _); (first | refine widL (by decide) (by with_reducible assumption) ?_ | refine widL (by decide) (FWok_nn (by with_reducible assumption)) ?_ | refine widN (by decide) (fun c hc => ?_)); simp (config := { maxSteps := 1000000 }) (disch := omega) only [go_sem, Int.reduceToNat, ↓reduceIte, Nat.reduceLT, Nat.reduceEqDiff, Nat.reduceAdd, Nat.reduceMul, Nat.reduceSub, Nat.reduceBEq, Nat.reduceLeDiff, reduceCtorEq, Nat.reduceLT, ↓Br_true, ↓Br_false, bind, pure, sc16, sb16, hv, a1, a2, a3, List.length_append]))
    refine ⟨Nat, fun k => k ≤ n, fun k => n - k, fun k => [(2, .f (.str (bs []))), (3, .f (.str (bs (winsT (headT r) us k)))), (21, .slc 0 0 n cap), (22, .f (.int .i64 n)), (23, .f (.int .i64 k))], fun _ => [.rows n cap 3 f false, .lit [.f (.int .i8 r.wi), .f (.int .i8 r.hi), .slc 0 0 n cap] true], 0, (by intro _; simp), ?_, (by (try refine Or.inl ?_); simp [Cov, covE, covH, cb_dead, cb_lit, cb_rows, cb_cells, cd_lit, cd_rows, cd_cells, cd_dead, covRow, look, SV.known, SV.bd, bdL, winsT, hcap] <;> omega), ?_⟩
    · exact Nat.zero_le _
    · intro k hk
      by_cases hlt : k < n
      · have hd : decide ((k : Int) < n) = true := decide_eq_true (by omega)
        have e1 := hf k hlt
        simp only [Win.fv] at e1
        obtain ⟨u0, u1, u2, _⟩ := win_ok hz (allW_at hw hlt)
        have c3 := decimal_cv (us k).a (by omega) (by omega)
        have c4 := NumberText_cv (us k).l (hb k hlt)
        have e2 := lett_ex u0
        have l3 := Lib.itoa_length_le (us k).a (by omega) (by omega)
        have l4 := hexN_len 8 (tbits (us k).l)
        have l5 := winsT_len (r0 := headT r) k (fun i hi => hs i (by omega))
        obtain ⟨W1, h1⟩ : ∃ W, W = [lett (us k).w] ++ Lib.itoa (us k).a := ⟨_, rfl⟩
        obtain ⟨W2, h2⟩ : ∃ W, W = W1 ++ [47] := ⟨_, rfl⟩
        obtain ⟨W3, h3⟩ : ∃ W, W = W2 ++ hexN (tbits (us k).l) 8 := ⟨_, rfl⟩
        obtain ⟨W4, h4⟩ : ∃ W, W = W3 ++ [10] := ⟨_, rfl⟩
        have b1 : bs [lett (us k).w] ++ bs (Lib.itoa (us k).a) = bs W1 := by rw [h1]; exact bs_add _ _
        have b2 : bs W1 ++ bs [47] = bs W2 := by rw [h2]; exact bs_add _ _
        have b3 : bs W2 ++ bs (hexN (tbits (us k).l) 8) = bs W3 := by rw [h3]; exact bs_add _ _
        have b4 : bs W3 ++ bs [10] = bs W4 := by rw [h4]; exact bs_add _ _
        have b5 : bs (winsT (headT r) us k) ++ bs W4 = bs (winsT (headT r) us (k + 1)) := by rw [h4, h3, h2, h1]; exact bs_add _ _
        have q1 : W1.length ≤ 22 := by rw [h1]; simp; omega
        have q2 : W2.length ≤ 23 := by rw [h2]; simp; omega
        have q3 : W3.length ≤ 31 := by rw [h3]; simp; omega
        have q4 : W4.length ≤ 32 := by rw [h4]; simp; omega
        clear h1 h2 h3 h4
        generalize hexN (tbits (us k).l) 8 = N at *
        generalize Lib.itoa (us k).a = A at *
        generalize lett (us k).w = L at *
        simp (config := { maxSteps := 1000000 }) (disch := omega) only [go_sem, Int.reduceToNat, ↓reduceIte, Nat.reduceLT, Nat.reduceEqDiff, Nat.reduceAdd, Nat.reduceMul, Nat.reduceSub, Nat.reduceBEq, Nat.reduceLeDiff, reduceCtorEq, Nat.reduceLT, ↓Br_true, ↓Br_false, bind, pure, sc16, sb16, hd, e1]
        repeat (with_reducible refine And.intro (by first | omega | assumption | (unfold SOk; kernel_rfl) | (unfold SBOk; kernel_rfl)) ?_)
        repeat' (first | (with_reducible refine And.intro (by first | (unfold SOk; kernel_rfl) | (unfold SBOk; kernel_rfl) | (with_reducible assumption) | omega | assumption) ?_) | (with_reducible refine Br_intro (fun hc => ?_) (fun hc => ?_)) | ((have cc := c3; (first | ((first | refine callR (by rfl) (by rfl) (by rfl) cc ?_ | refine callM (by rfl) (by rfl) (by rfl) cc ?_ | refine callMo (by rfl) (by rfl) (by rfl) cc ?_); clear cc; rintro _ _ ⟨rfl, rfl⟩) | (refine callE (by rfl) cc (by rfl) ?_; clear cc))); simp (config := { maxSteps := 1000000 }) (disch := omega) only [go_sem, Int.reduceToNat, ↓reduceIte, Nat.reduceLT, Nat.reduceEqDiff, Nat.reduceAdd, Nat.reduceMul, Nat.reduceSub, Nat.reduceBEq, Nat.reduceLeDiff, reduceCtorEq, Nat.reduceLT, ↓Br_true, ↓Br_false, bind, pure, sc16, sb16, hd, e1, e2, b1, b2, b3, b4, b5]) | ((have cc := c4; (first | ((first | refine callR (by rfl) (by rfl) (by rfl) cc ?_ | refine callM (by rfl) (by rfl) (by rfl) cc ?_ | refine callMo (by rfl) (by rfl) (by rfl) cc ?_); clear cc; rintro _ _ ⟨rfl, rfl⟩) | (refine callE (by rfl) cc (by rfl) ?_; clear cc))); simp (config := { maxSteps := 1000000 }) (disch := omega) only [go_sem, Int.reduceToNat, ↓reduceIte, Nat.reduceLT, Nat.reduceEqDiff, Nat.reduceAdd, Nat.reduceMul, Nat.reduceSub, Nat.reduceBEq, Nat.reduceLeDiff, reduceCtorEq, Nat.reduceLT, ↓Br_true, ↓Br_false, bind, pure, sc16, sb16, hd, e1, e2, b1, b2, b3, b4, b5]) | ((with_reducible show WidN _ _ _ _ _ _ _ _); (first | refine widL (by decide) (by with_reducible assumption) ?_ | refine widL (by decide) (FWok_nn (by with_reducible assumption)) ?_ | refine widN (by decide) (fun c hc => ?_)); simp (config := { maxSteps := 1000000 }) (disch := omega) only [go_sem, Int.reduceToNat, ↓reduceIte, Nat.reduceLT, Nat.reduceEqDiff, Nat.reduceAdd, Nat.reduceMul, Nat.reduceSub, Nat.reduceBEq, Nat.reduceLeDiff, reduceCtorEq, Nat.reduceLT, ↓Br_true, ↓Br_false, bind, pure, sc16, sb16, hd, e1, e2, b1, b2, b3, b4, b5]))
        exact ⟨k + 1, by omega, by omega, by (try refine Or.inl ?_); simp [Cov, covE, covH, cb_dead, cb_lit, cb_rows, cb_cells, cd_lit, cd_rows, cd_cells, cd_dead, covRow, look, SV.known, SV.bd, bdL, hcap] <;> omega⟩
      · have hd : decide ((k : Int) < n) = false := decide_eq_false (by omega)
        obtain rfl : k = n := by omega
        simp (config := { maxSteps := 1000000 }) (disch := omega) only [go_sem, Int.reduceToNat, ↓reduceIte, Nat.reduceLT, Nat.reduceEqDiff, Nat.reduceAdd, Nat.reduceMul, Nat.reduceSub, Nat.reduceBEq, Nat.reduceLeDiff, reduceCtorEq, Nat.reduceLT, ↓Br_true, ↓Br_false, bind, pure, sc16, sb16, hd]
        simp [romS, hv, romT]
theorem sDec_cv (x : Int) (h0 : 0 ≤ x) (h1 : x ≤ 9223372036854775807) : CV Tryd.prog 45 [.f (.int .i64 x)] [] (fun v h => v = .f (.str (bs (Lib.itoa x))) ∧ h = []) := by
  obtain ⟨m, rfl⟩ : ∃ m : Nat, x = (m : Int) := ⟨x.toNat, by omega⟩
  rw [Lib.itoa_nonneg]
  exact Decimal_cv m (by omega)
theorem l03Text_cv (r : Rom) (us : Nat → Win) (n cap : Nat) (f : Nat → List FV) (H : RomH r us n cap f) (hb : ∀ i, i < n → (us i).l < 4294967296) (hv : vRoom r us n = true) :
    CV Tryd.prog 32 [.ptr 0 0 0] [romB r n cap false, .rows n cap 3 f false] (fun v h => v = .f (.str (bs (romT r us n))) ∧ h = [romB r n cap false, .rows n cap 3 f false]) := by
  obtain ⟨hf, hcap, hn, ⟨_, _⟩, ⟨_, _⟩, hs⟩ := H
  obtain ⟨hz, h12, hw⟩ := vRoom_at hv
  have c1 := sDec_cv r.wi (by have := hz.1; omega) (by have := hz.1; omega)
  have c2 := sDec_cv r.hi (by have := hz.2; omega) (by have := hz.2; omega)
  have hl := headT_len hz
  have l1 := Lib.itoa_length_le r.wi (by have := hz.1; omega) (by have := hz.1; omega)
  have l2 := Lib.itoa_length_le r.hi (by have := hz.2; omega) (by have := hz.2; omega)
  have a1 := bs_add (Lib.itoa r.wi) [120]
  have a2 := bs_add (Lib.itoa r.wi ++ [120]) (Lib.itoa r.hi)
  have a3 : bs (Lib.itoa r.wi ++ [120] ++ Lib.itoa r.hi) ++ bs [10] = bs (headT r) := bs_add _ _
  have a4 : (Lib.itoa r.wi ++ [120] ++ Lib.itoa r.hi).length ≤ 43 := by simp; omega
  refine cv_of_run 1000 sc32 sb32 59 [.tmp 2] tabOk (by kernel_rfl) Tryd.func32 rfl (by kernel_rfl) Tryd.ntmps32 rfl (by simp) rfl (by simp [bdL, SV.bd]) ?_
  simp (config := { maxSteps := 1000000 }) (disch := omega) only [go_sem, Int.reduceToNat, ↓reduceIte, Nat.reduceLT, Nat.reduceEqDiff, Nat.reduceAdd, Nat.reduceMul, Nat.reduceSub, Nat.reduceBEq, Nat.reduceLeDiff, reduceCtorEq, Nat.reduceLT, ↓Br_true, ↓Br_false, bind, pure, sc32, sb32, hv]
  repeat' (first | (with_reducible refine And.intro (by first | (unfold SOk; kernel_rfl) | (unfold SBOk; kernel_rfl) | (with_reducible assumption) | omega | assumption) ?_) | (with_reducible refine Br_intro (fun hc => ?_) (fun hc => ?_)) | ((have cc := c1; (first | ((first | refine callR (by rfl) (by rfl) (by rfl) cc ?_ | refine callM (by rfl) (by rfl) (by rfl) cc ?_ | refine callMo (by rfl) (by rfl) (by rfl) cc ?_); clear cc; rintro _ _ ⟨rfl, rfl⟩) | (refine callE (by rfl) cc (by rfl) ?_; clear cc))); simp (config := { maxSteps := 1000000 }) (disch := omega) only [go_sem, Int.reduceToNat, ↓reduceIte, Nat.reduceLT, Nat.reduceEqDiff, Nat.reduceAdd, Nat.reduceMul, Nat.reduceSub, Nat.reduceBEq, Nat.reduceLeDiff, reduceCtorEq, Nat.reduceLT, ↓Br_true, ↓Br_false, bind, pure, sc32, sb32, hv, a1, a2, a3, List.length_append]) | ((have cc := c2; (first | ((first | refine callR (by rfl) (by rfl) (by rfl) cc ?_ | refine callM (by rfl) (by rfl) (by rfl) cc ?_ | refine callMo (by rfl) (by rfl) (by rfl) cc ?_); clear cc; rintro _ _ ⟨rfl, rfl⟩) | (refine callE (by rfl) cc (by rfl) ?_; clear cc))); simp (config := { maxSteps := 1000000 }) (disch := omega) only [go_sem, Int.reduceToNat, ↓reduceIte, Nat.reduceLT, Nat.reduceEqDiff, Nat.reduceAdd, Nat.reduceMul, Nat.reduceSub, Nat.reduceBEq, Nat.reduceLeDiff, reduceCtorEq, Nat.reduceLT, ↓Br_true, ↓Br_false, bind, pure, sc32, sb32, hv, a1, a2, a3, List.length_append]) | ((with_reducible show WidN _ _ _ _ _ _ _ _); (first | refine widL (by decide) (by with_reducible assumption) ?_ | refine widL (by decide) (FWok_nn (by with_reducible assumption)) ?_ | refine widN (by decide) (fun c hc => ?_)); simp (config := { maxSteps := 1000000 }) (disch := omega) only [go_sem, Int.reduceToNat, ↓reduceIte, Nat.reduceLT, Nat.reduceEqDiff, Nat.reduceAdd, Nat.reduceMul, Nat.reduceSub, Nat.reduceBEq, Nat.reduceLeDiff, reduceCtorEq, Nat.reduceLT, ↓Br_true, ↓Br_false, bind, pure, sc32, sb32, hv, a1, a2, a3, List.length_append]))
  refine ⟨Nat, fun k => k ≤ n, fun k => n - k, fun k => [(0, .ptr 0 0 0), (2, .f (.str (bs []))), (3, .f (.str (bs (winsT (headT r) us k)))), (4, .f (.str (bs [110, 101, 115, 119]))), (5, .f (.int .i64 k))], fun _ => [romB r n cap false, .rows n cap 3 f false], 0, (by intro _; simp), ?_, (by (try refine Or.inl ?_); simp [Cov, covE, covH, cb_dead, cb_lit, cb_rows, cb_cells, cd_lit, cd_rows, cd_cells, cd_dead, covRow, look, SV.known, SV.bd, bdL, winsT, hcap] <;> omega), ?_⟩
  · exact Nat.zero_le _
  · intro k hk
    by_cases hlt : k < n
    · have hd : decide ((k : Int) < n) = true := decide_eq_true (by omega)
      have e1 := hf k hlt
      simp only [Win.fv] at e1
      obtain ⟨u0, u1, u2, _⟩ := win_ok hz (allW_at hw hlt)
      have c3 := sDec_cv (us k).a (by omega) (by omega)
      have c4 := l01Hex_cv (us k).l (hb k hlt)
      have e2 := lett_ex u0
      have l3 := Lib.itoa_length_le (us k).a (by omega) (by omega)
      have l4 := hexN_len 8 (tbits (us k).l)
      have l5 := winsT_len (r0 := headT r) k (fun i hi => hs i (by omega))
      obtain ⟨W1, h1⟩ : ∃ W, W = [lett (us k).w] ++ Lib.itoa (us k).a := ⟨_, rfl⟩
      obtain ⟨W2, h2⟩ : ∃ W, W = W1 ++ [47] := ⟨_, rfl⟩
      obtain ⟨W3, h3⟩ : ∃ W, W = W2 ++ hexN (tbits (us k).l) 8 := ⟨_, rfl⟩
      obtain ⟨W4, h4⟩ : ∃ W, W = W3 ++ [10] := ⟨_, rfl⟩
      have b1 : bs [lett (us k).w] ++ bs (Lib.itoa (us k).a) = bs W1 := by rw [h1]; exact bs_add _ _
      have b2 : bs W1 ++ bs [47] = bs W2 := by rw [h2]; exact bs_add _ _
      have b3 : bs W2 ++ bs (hexN (tbits (us k).l) 8) = bs W3 := by rw [h3]; exact bs_add _ _
      have b4 : bs W3 ++ bs [10] = bs W4 := by rw [h4]; exact bs_add _ _
      have b5 : bs (winsT (headT r) us k) ++ bs W4 = bs (winsT (headT r) us (k + 1)) := by rw [h4, h3, h2, h1]; exact bs_add _ _
      have q1 : W1.length ≤ 22 := by rw [h1]; simp; omega
      have q2 : W2.length ≤ 23 := by rw [h2]; simp; omega
      have q3 : W3.length ≤ 31 := by rw [h3]; simp; omega
      have q4 : W4.length ≤ 32 := by rw [h4]; simp; omega
      clear h1 h2 h3 h4
      generalize hexN (tbits (us k).l) 8 = N at *
      generalize Lib.itoa (us k).a = A at *
      generalize lett (us k).w = L at *
      simp (config := { maxSteps := 1000000 }) (disch := omega) only [go_sem, Int.reduceToNat, ↓reduceIte, Nat.reduceLT, Nat.reduceEqDiff, Nat.reduceAdd, Nat.reduceMul, Nat.reduceSub, Nat.reduceBEq, Nat.reduceLeDiff, reduceCtorEq, Nat.reduceLT, ↓Br_true, ↓Br_false, bind, pure, sc32, sb32, hd, e1]
      repeat (with_reducible refine And.intro (by first | omega | assumption | (unfold SOk; kernel_rfl) | (unfold SBOk; kernel_rfl)) ?_)
      repeat' (first | (with_reducible refine And.intro (by first | (unfold SOk; kernel_rfl) | (unfold SBOk; kernel_rfl) | (with_reducible assumption) | omega | assumption) ?_) | (with_reducible refine Br_intro (fun hc => ?_) (fun hc => ?_)) | ((have cc := c3; (first | ((first | refine callR (by rfl) (by rfl) (by rfl) cc ?_ | refine callM (by rfl) (by rfl) (by rfl) cc ?_ | refine callMo (by rfl) (by rfl) (by rfl) cc ?_); clear cc; rintro _ _ ⟨rfl, rfl⟩) | (refine callE (by rfl) cc (by rfl) ?_; clear cc))); simp (config := { maxSteps := 1000000 }) (disch := omega) only [go_sem, Int.reduceToNat, ↓reduceIte, Nat.reduceLT, Nat.reduceEqDiff, Nat.reduceAdd, Nat.reduceMul, Nat.reduceSub, Nat.reduceBEq, Nat.reduceLeDiff, reduceCtorEq, Nat.reduceLT, ↓Br_true, ↓Br_false, bind, pure, sc32, sb32, hd, e1, e2, b1, b2, b3, b4, b5]) | ((have cc := c4; (first | ((first | refine callR (by rfl) (by rfl) (by rfl) cc ?_ | refine callM (by rfl) (by rfl) (by rfl) cc ?_ | refine callMo (by rfl) (by rfl) (by rfl) cc ?_); clear cc; rintro _ _ ⟨rfl, rfl⟩) | (refine callE (by rfl) cc (by rfl) ?_; clear cc))); simp (config := { maxSteps := 1000000 }) (disch := omega) only [go_sem, Int.reduceToNat, ↓reduceIte, Nat.reduceLT, Nat.reduceEqDiff, Nat.reduceAdd, Nat.reduceMul, Nat.reduceSub, Nat.reduceBEq, Nat.reduceLeDiff, reduceCtorEq, Nat.reduceLT, ↓Br_true, ↓Br_false, bind, pure, sc32, sb32, hd, e1, e2, b1, b2, b3, b4, b5]) | ((with_reducible show WidN _ _ _ _ _ _ _ _); (first | refine widL (by decide) (by with_reducible assumption) ?_ | refine widL (by decide) (FWok_nn (by with_reducible assumption)) ?_ | refine widN (by decide) (fun c hc => ?_)); simp (config := { maxSteps := 1000000 }) (disch := omega) only [go_sem, Int.reduceToNat, ↓reduceIte, Nat.reduceLT, Nat.reduceEqDiff, Nat.reduceAdd, Nat.reduceMul, Nat.reduceSub, Nat.reduceBEq, Nat.reduceLeDiff, reduceCtorEq, Nat.reduceLT, ↓Br_true, ↓Br_false, bind, pure, sc32, sb32, hd, e1, e2, b1, b2, b3, b4, b5]))
      exact ⟨k + 1, by omega, by omega, by (try refine Or.inl ?_); simp [Cov, covE, covH, cb_dead, cb_lit, cb_rows, cb_cells, cd_lit, cd_rows, cd_cells, cd_dead, covRow, look, SV.known, SV.bd, bdL, hcap] <;> omega⟩
    · have hd : decide ((k : Int) < n) = false := decide_eq_false (by omega)
      obtain rfl : k = n := by omega
      simp (config := { maxSteps := 1000000 }) (disch := omega) only [go_sem, Int.reduceToNat, ↓reduceIte, Nat.reduceLT, Nat.reduceEqDiff, Nat.reduceAdd, Nat.reduceMul, Nat.reduceSub, Nat.reduceBEq, Nat.reduceLeDiff, reduceCtorEq, Nat.reduceLT, ↓Br_true, ↓Br_false, bind, pure, sc32, sb32, hd]
      rfl
theorem sRoomText_cv (r : Rom) (us : Nat → Win) (n cap : Nat) (f : Nat → List FV) (H : RomH r us n cap f) (hb : ∀ i, i < n → (us i).l < 4294967296) :
    CV Tryd.prog 14 [romV r n cap] [.rows n cap 3 f false] (fun v h => v = .f (.str (bs (romS r us n))) ∧ h = [.rows n cap 3 f false]) := by
  have cv := l03Ok_cv r us n cap f H
  cases hv : vRoom r us n
  all_goals rw [hv] at cv
  · refine cv_of_run 1000 sc14 sb14 6 [.tmp 2] tabOk (by kernel_rfl) Tryd.func14 rfl (by kernel_rfl) Tryd.ntmps14 rfl (by simp) rfl (by simp [bdL, SV.bd]) ?_
    simp (config := { maxSteps := 1000000 }) (disch := omega) only [go_sem, Int.reduceToNat, ↓reduceIte, Nat.reduceLT, Nat.reduceEqDiff, Nat.reduceAdd, Nat.reduceMul, Nat.reduceSub, Nat.reduceBEq, Nat.reduceLeDiff, reduceCtorEq, Nat.reduceLT, ↓Br_true, ↓Br_false, bind, pure, sc14, sb14, hv]
    repeat' (first | (with_reducible refine And.intro (by first | (unfold SOk; kernel_rfl) | (unfold SBOk; kernel_rfl) | (with_reducible assumption) | omega | assumption) ?_) | (with_reducible refine Br_intro (fun hc => ?_) (fun hc => ?_)) | ((have cc := cv; (first | ((first | refine callR (by rfl) (by rfl) (by rfl) cc ?_ | refine callM (by rfl) (by rfl) (by rfl) cc ?_ | refine callMo (by rfl) (by rfl) (by rfl) cc ?_); clear cc; rintro _ _ ⟨rfl, rfl⟩) | (refine callE (by rfl) cc (by rfl) ?_; clear cc))); simp (config := { maxSteps := 1000000 }) (disch := omega) only [go_sem, Int.reduceToNat, ↓reduceIte, Nat.reduceLT, Nat.reduceEqDiff, Nat.reduceAdd, Nat.reduceMul, Nat.reduceSub, Nat.reduceBEq, Nat.reduceLeDiff, reduceCtorEq, Nat.reduceLT, ↓Br_true, ↓Br_false, bind, pure, sc14, sb14, hv]) | ((with_reducible show WidN _ _ _ _ _ _ _ _); (first | refine widL (by decide) (by with_reducible assumption) ?_ | refine widL (by decide) (FWok_nn (by with_reducible assumption)) ?_ | refine widN (by decide) (fun c hc => ?_)); simp (config := { maxSteps := 1000000 }) (disch := omega) only [go_sem, Int.reduceToNat, ↓reduceIte, Nat.reduceLT, Nat.reduceEqDiff, Nat.reduceAdd, Nat.reduceMul, Nat.reduceSub, Nat.reduceBEq, Nat.reduceLeDiff, reduceCtorEq, Nat.reduceLT, ↓Br_true, ↓Br_false, bind, pure, sc14, sb14, hv]))
    simp [romS, hv]
  · refine cv_of_run 1000 sc14 sb14 6 [.tmp 2] tabOk (by kernel_rfl) Tryd.func14 rfl (by kernel_rfl) Tryd.ntmps14 rfl (by simp) rfl (by simp [bdL, SV.bd]) ?_
    simp (config := { maxSteps := 1000000 }) (disch := omega) only [go_sem, Int.reduceToNat, ↓reduceIte, Nat.reduceLT, Nat.reduceEqDiff, Nat.reduceAdd, Nat.reduceMul, Nat.reduceSub, Nat.reduceBEq, Nat.reduceLeDiff, reduceCtorEq, Nat.reduceLT, ↓Br_true, ↓Br_false, bind, pure, sc14, sb14, hv]
    repeat' (first | (with_reducible refine And.intro (by first | (unfold SOk; kernel_rfl) | (unfold SBOk; kernel_rfl) | (with_reducible assumption) | omega | assumption) ?_) | (with_reducible refine Br_intro (fun hc => ?_) (fun hc => ?_)) | ((have cc := cv; (first | ((first | refine callR (by rfl) (by rfl) (by rfl) cc ?_ | refine callM (by rfl) (by rfl) (by rfl) cc ?_ | refine callMo (by rfl) (by rfl) (by rfl) cc ?_); clear cc; rintro _ _ ⟨rfl, rfl⟩) | (refine callE (by rfl) cc (by rfl) ?_; clear cc))); simp (config := { maxSteps := 1000000 }) (disch := omega) only [go_sem, Int.reduceToNat, ↓reduceIte, Nat.reduceLT, Nat.reduceEqDiff, Nat.reduceAdd, Nat.reduceMul, Nat.reduceSub, Nat.reduceBEq, Nat.reduceLeDiff, reduceCtorEq, Nat.reduceLT, ↓Br_true, ↓Br_false, bind, pure, sc14, sb14, hv]) | ((have cc := l03Text_cv r us n cap f H hb hv; (first | ((first | refine callR (by rfl) (by rfl) (by rfl) cc ?_ | refine callM (by rfl) (by rfl) (by rfl) cc ?_ | refine callMo (by rfl) (by rfl) (by rfl) cc ?_); clear cc; rintro _ _ ⟨rfl, rfl⟩) | (refine callE (by rfl) cc (by rfl) ?_; clear cc))); simp (config := { maxSteps := 1000000 }) (disch := omega) only [go_sem, Int.reduceToNat, ↓reduceIte, Nat.reduceLT, Nat.reduceEqDiff, Nat.reduceAdd, Nat.reduceMul, Nat.reduceSub, Nat.reduceBEq, Nat.reduceLeDiff, reduceCtorEq, Nat.reduceLT, ↓Br_true, ↓Br_false, bind, pure, sc14, sb14, hv]) | ((with_reducible show WidN _ _ _ _ _ _ _ _); (first | refine widL (by decide) (by with_reducible assumption) ?_ | refine widL (by decide) (FWok_nn (by with_reducible assumption)) ?_ | refine widN (by decide) (fun c hc => ?_)); simp (config := { maxSteps := 1000000 }) (disch := omega) only [go_sem, Int.reduceToNat, ↓reduceIte, Nat.reduceLT, Nat.reduceEqDiff, Nat.reduceAdd, Nat.reduceMul, Nat.reduceSub, Nat.reduceBEq, Nat.reduceLeDiff, reduceCtorEq, Nat.reduceLT, ↓Br_true, ↓Br_false, bind, pure, sc14, sb14, hv]))
    simp [romS, hv]
theorem FnExactRoomTextS_cv (r : Rom) (us : Nat → Win) (n cap : Nat) (f : Nat → List FV) (hf : ∀ i, i < n → f i = (us i).fv) (hcap : n ≤ cap) (htop : n ≤ 9223372036854775807) (hr : (-128 ≤ r.wi ∧ r.wi ≤ 127) ∧ -128 ≤ r.hi ∧ r.hi ≤ 127) (hs : ∀ i, i < n → (us i).sm) (hb : ∀ i, i < n → (us i).l < 4294967296) :
    CV Tryd.prog 5 [romV r n cap] [.rows n cap 3 f false] (fun v hh => v = .f (.bool true) ∧ hh = [.rows n cap 3 f false]) := by
  have e := strEq_self (bs (romS r us n))
  by_cases hn : n ≤ 1048576
  · have hq : szI 1048576 n = 1048576 - n := by unfold szI; rw [if_neg (by omega)]
    have hq2 : ¬ 1048576 - (n : Int) < 0 := by omega
    have hq3 : decide ((1048576 : Int) < n) = false := decide_eq_false (by omega)
    have cs := fun f hf => sRoomText_cv r us n n f ⟨hf, Nat.le_refl n, hn, hr.1, hr.2, hs⟩ hb
    have ci := fun f hf => RoomText_cv r us n n f ⟨hf, Nat.le_refl n, hn, hr.1, hr.2, hs⟩ hb
    have ct := fun cap f hcap hf => toRoomS_cv r us n cap f hf hn hcap
    have ce := fun f g cap cap' hf hg h1 h2 => eqRoom_cv r us n f g cap cap' hf hg h1 h2 hn
    refine cv_of_run 1000 sc5 sb5 27 [.tmp 2] tabOk (by kernel_rfl) Tryd.func5 rfl (by kernel_rfl) Tryd.ntmps5 rfl (by simp) rfl (by simp [bdL, SV.bd]) ?_
    simp (config := { maxSteps := 1000000 }) (disch := omega) only [go_sem, Int.reduceToNat, ↓reduceIte, Nat.reduceLT, Nat.reduceEqDiff, Nat.reduceAdd, Nat.reduceMul, Nat.reduceSub, Nat.reduceBEq, Nat.reduceLeDiff, reduceCtorEq, Nat.reduceLT, ↓Br_true, ↓Br_false, bind, pure, sc5, sb5]
    (have cc := szRoomS_cv r n cap f 1048576 (by omega) (by omega) hcap htop; (first | ((first | refine callR (by rfl) (by rfl) (by rfl) cc ?_ | refine callM (by rfl) (by rfl) (by rfl) cc ?_ | refine callMo (by rfl) (by rfl) (by rfl) cc ?_); clear cc; rintro _ _ ⟨rfl, rfl⟩) | (refine callE (by rfl) cc (by rfl) ?_; clear cc)))
    simp (config := { maxSteps := 1000000 }) (disch := omega) only [go_sem, Int.reduceToNat, ↓reduceIte, Nat.reduceLT, Nat.reduceEqDiff, Nat.reduceAdd, Nat.reduceMul, Nat.reduceSub, Nat.reduceBEq, Nat.reduceLeDiff, reduceCtorEq, Nat.reduceLT, ↓Br_true, ↓Br_false, bind, pure, sc5, sb5, hq, hq2]
    repeat' (first | (with_reducible refine And.intro (by first | (unfold SOk; kernel_rfl) | (unfold SBOk; kernel_rfl) | (with_reducible assumption) | omega | assumption) ?_) | (with_reducible refine Br_intro (fun hc => ?_) (fun hc => ?_)) | ((with_reducible show WidN _ _ _ _ _ _ _ _); (first | refine widL (by decide) (by with_reducible assumption) ?_ | refine widL (by decide) (FWok_nn (by with_reducible assumption)) ?_ | refine widN (by decide) (fun c hc => ?_)); simp (config := { maxSteps := 1000000 }) (disch := omega) only [go_sem, Int.reduceToNat, ↓reduceIte, Nat.reduceLT, Nat.reduceEqDiff, Nat.reduceAdd, Nat.reduceMul, Nat.reduceSub, Nat.reduceBEq, Nat.reduceLeDiff, reduceCtorEq, Nat.reduceLT, ↓Br_true, ↓Br_false, bind, pure, sc5, sb5, hq, hq2]))
    have cc := ct cap f hcap hf; (first | refine callR (by rfl) (by rfl) (by rfl) cc ?_ | refine callM (by rfl) (by rfl) (by rfl) cc ?_ | refine callMo (by rfl) (by rfl) (by rfl) cc ?_ | refine callG (by rfl) (by rfl) (by rfl) cc ?_ | refine callW (by rfl) (by first | rfl | (simp [ofL, kpB, kpR, ofB, isOwnB, isDead, inL, hget]; done)) (by rfl) (by rfl) cc ?_); clear cc; rintro _ _ ⟨g1, i1, rfl, rfl⟩
    simp (config := { maxSteps := 1000000 }) (disch := omega) only [go_sem, Int.reduceToNat, ↓reduceIte, Nat.reduceLT, Nat.reduceEqDiff, Nat.reduceAdd, Nat.reduceMul, Nat.reduceSub, Nat.reduceBEq, Nat.reduceLeDiff, reduceCtorEq, Nat.reduceLT, ↓Br_true, ↓Br_false, bind, pure, sc5, sb5]
    (have cc := cs g1 i1; (first | ((first | refine callR (by rfl) (by rfl) (by rfl) cc ?_ | refine callM (by rfl) (by rfl) (by rfl) cc ?_ | refine callMo (by rfl) (by rfl) (by rfl) cc ?_); clear cc; rintro _ _ ⟨rfl, rfl⟩) | (refine callE (by rfl) cc (by rfl) ?_; clear cc)))
    simp (config := { maxSteps := 1000000 }) (disch := omega) only [go_sem, Int.reduceToNat, ↓reduceIte, Nat.reduceLT, Nat.reduceEqDiff, Nat.reduceAdd, Nat.reduceMul, Nat.reduceSub, Nat.reduceBEq, Nat.reduceLeDiff, reduceCtorEq, Nat.reduceLT, ↓Br_true, ↓Br_false, bind, pure, sc5, sb5]
    have cc := ct cap f hcap hf; (first | refine callR (by rfl) (by rfl) (by rfl) cc ?_ | refine callM (by rfl) (by rfl) (by rfl) cc ?_ | refine callMo (by rfl) (by rfl) (by rfl) cc ?_ | refine callG (by rfl) (by rfl) (by rfl) cc ?_ | refine callW (by rfl) (by first | rfl | (simp [ofL, kpB, kpR, ofB, isOwnB, isDead, inL, hget]; done)) (by rfl) (by rfl) cc ?_); clear cc; rintro _ _ ⟨g2, i2, rfl, rfl⟩
    simp (config := { maxSteps := 1000000 }) (disch := omega) only [go_sem, Int.reduceToNat, ↓reduceIte, Nat.reduceLT, Nat.reduceEqDiff, Nat.reduceAdd, Nat.reduceMul, Nat.reduceSub, Nat.reduceBEq, Nat.reduceLeDiff, reduceCtorEq, Nat.reduceLT, ↓Br_true, ↓Br_false, bind, pure, sc5, sb5]
    (have cc := ci g2 i2; (first | ((first | refine callR (by rfl) (by rfl) (by rfl) cc ?_ | refine callM (by rfl) (by rfl) (by rfl) cc ?_ | refine callMo (by rfl) (by rfl) (by rfl) cc ?_); clear cc; rintro _ _ ⟨rfl, rfl⟩) | (refine callE (by rfl) cc (by rfl) ?_; clear cc)))
    simp (config := { maxSteps := 1000000 }) (disch := omega) only [go_sem, Int.reduceToNat, ↓reduceIte, Nat.reduceLT, Nat.reduceEqDiff, Nat.reduceAdd, Nat.reduceMul, Nat.reduceSub, Nat.reduceBEq, Nat.reduceLeDiff, reduceCtorEq, Nat.reduceLT, ↓Br_true, ↓Br_false, bind, pure, sc5, sb5, e]
    repeat' (first | (with_reducible refine And.intro (by first | (unfold SOk; kernel_rfl) | (unfold SBOk; kernel_rfl) | (with_reducible assumption) | omega | assumption) ?_) | (with_reducible refine Br_intro (fun hc => ?_) (fun hc => ?_)) | ((with_reducible show WidN _ _ _ _ _ _ _ _); (first | refine widL (by decide) (by with_reducible assumption) ?_ | refine widL (by decide) (FWok_nn (by with_reducible assumption)) ?_ | refine widN (by decide) (fun c hc => ?_)); simp (config := { maxSteps := 1000000 }) (disch := omega) only [go_sem, Int.reduceToNat, ↓reduceIte, Nat.reduceLT, Nat.reduceEqDiff, Nat.reduceAdd, Nat.reduceMul, Nat.reduceSub, Nat.reduceBEq, Nat.reduceLeDiff, reduceCtorEq, Nat.reduceLT, ↓Br_true, ↓Br_false, bind, pure, sc5, sb5, e]))
    have cc := ct cap f hcap hf; (first | refine callR (by rfl) (by rfl) (by rfl) cc ?_ | refine callM (by rfl) (by rfl) (by rfl) cc ?_ | refine callMo (by rfl) (by rfl) (by rfl) cc ?_ | refine callG (by rfl) (by rfl) (by rfl) cc ?_ | refine callW (by rfl) (by first | rfl | (simp [ofL, kpB, kpR, ofB, isOwnB, isDead, inL, hget]; done)) (by rfl) (by rfl) cc ?_); clear cc; rintro _ _ ⟨g3, i3, rfl, rfl⟩
    simp (config := { maxSteps := 1000000 }) (disch := omega) only [go_sem, Int.reduceToNat, ↓reduceIte, Nat.reduceLT, Nat.reduceEqDiff, Nat.reduceAdd, Nat.reduceMul, Nat.reduceSub, Nat.reduceBEq, Nat.reduceLeDiff, reduceCtorEq, Nat.reduceLT, ↓Br_true, ↓Br_false, bind, pure, sc5, sb5]
    (have cc := ce g2 g3 n n i2 i3 (Nat.le_refl n) (Nat.le_refl n); (first | ((first | refine callR (by rfl) (by rfl) (by rfl) cc ?_ | refine callM (by rfl) (by rfl) (by rfl) cc ?_ | refine callMo (by rfl) (by rfl) (by rfl) cc ?_); clear cc; rintro _ _ ⟨rfl, rfl⟩) | (refine callE (by rfl) cc (by rfl) ?_; clear cc)))
    simp (config := { maxSteps := 1000000 }) (disch := omega) only [go_sem, Int.reduceToNat, ↓reduceIte, Nat.reduceLT, Nat.reduceEqDiff, Nat.reduceAdd, Nat.reduceMul, Nat.reduceSub, Nat.reduceBEq, Nat.reduceLeDiff, reduceCtorEq, Nat.reduceLT, ↓Br_true, ↓Br_false, bind, pure, sc5, sb5]
  · have hq : szI 1048576 n = -1 := by unfold szI; rw [if_pos (by omega)]
    have hq2 : decide ((-1 : Int) < 0) = true := by decide
    refine cv_of_run 1000 sc5 sb5 27 [.tmp 2] tabOk (by kernel_rfl) Tryd.func5 rfl (by kernel_rfl) Tryd.ntmps5 rfl (by simp) rfl (by simp [bdL, SV.bd]) ?_
    simp (config := { maxSteps := 1000000 }) (disch := omega) only [go_sem, Int.reduceToNat, ↓reduceIte, Nat.reduceLT, Nat.reduceEqDiff, Nat.reduceAdd, Nat.reduceMul, Nat.reduceSub, Nat.reduceBEq, Nat.reduceLeDiff, reduceCtorEq, Nat.reduceLT, ↓Br_true, ↓Br_false, bind, pure, sc5, sb5]
    (have cc := szRoomS_cv r n cap f 1048576 (by omega) (by omega) hcap htop; (first | ((first | refine callR (by rfl) (by rfl) (by rfl) cc ?_ | refine callM (by rfl) (by rfl) (by rfl) cc ?_ | refine callMo (by rfl) (by rfl) (by rfl) cc ?_); clear cc; rintro _ _ ⟨rfl, rfl⟩) | (refine callE (by rfl) cc (by rfl) ?_; clear cc)))
    simp (config := { maxSteps := 1000000 }) (disch := omega) only [go_sem, Int.reduceToNat, ↓reduceIte, Nat.reduceLT, Nat.reduceEqDiff, Nat.reduceAdd, Nat.reduceMul, Nat.reduceSub, Nat.reduceBEq, Nat.reduceLeDiff, reduceCtorEq, Nat.reduceLT, ↓Br_true, ↓Br_false, bind, pure, sc5, sb5, hq, hq2]
    repeat' (first | (with_reducible refine And.intro (by first | (unfold SOk; kernel_rfl) | (unfold SBOk; kernel_rfl) | (with_reducible assumption) | omega | assumption) ?_) | (with_reducible refine Br_intro (fun hc => ?_) (fun hc => ?_)) | ((with_reducible show WidN _ _ _ _ _ _ _ _); (first | refine widL (by decide) (by with_reducible assumption) ?_ | refine widL (by decide) (FWok_nn (by with_reducible assumption)) ?_ | refine widN (by decide) (fun c hc => ?_)); simp (config := { maxSteps := 1000000 }) (disch := omega) only [go_sem, Int.reduceToNat, ↓reduceIte, Nat.reduceLT, Nat.reduceEqDiff, Nat.reduceAdd, Nat.reduceMul, Nat.reduceSub, Nat.reduceBEq, Nat.reduceLeDiff, reduceCtorEq, Nat.reduceLT, ↓Br_true, ↓Br_false, bind, pure, sc5, sb5, hq, hq2]))
theorem FnExactRoomTextN_cv (r : Rom) (hr : (-128 ≤ r.wi ∧ r.wi ≤ 127) ∧ -128 ≤ r.hi ∧ r.hi ≤ 127) :
    CV Tryd.prog 5 [romN r] [] (fun v hh => v = .f (.bool true) ∧ hh = []) := by
  obtain ⟨us, _⟩ : ∃ us : Nat → Win, True := ⟨fun _ => ⟨0, 0, 0⟩, trivial⟩
  have e := strEq_self (bs (romS r us 0))
  have z : ∀ f : Nat → List FV, ∀ i, i < 0 → f i = (us i).fv := fun f i hi => by omega
  have cs := fun f => sRoomText_cv r us 0 0 f ⟨z f, Nat.le_refl 0, by omega, hr.1, hr.2, fun i hi => by omega⟩ (fun i hi => by omega)
  have ci := fun f => RoomText_cv r us 0 0 f ⟨z f, Nat.le_refl 0, by omega, hr.1, hr.2, fun i hi => by omega⟩ (fun i hi => by omega)
  have ce := fun f g => eqRoom_cv r us 0 f g 0 0 (z f) (z g) (Nat.le_refl 0) (Nat.le_refl 0) (by omega)
  have hq : decide ((1048576 : Int) < 0) = false := by decide
  refine cv_of_run 1000 sc5 sb5 27 [.tmp 2] tabOk (by kernel_rfl) Tryd.func5 rfl (by kernel_rfl) Tryd.ntmps5 rfl (by simp) rfl (by simp [bdL, SV.bd]) ?_
  simp (config := { maxSteps := 1000000 }) (disch := omega) only [go_sem, Int.reduceToNat, ↓reduceIte, Nat.reduceLT, Nat.reduceEqDiff, Nat.reduceAdd, Nat.reduceMul, Nat.reduceSub, Nat.reduceBEq, Nat.reduceLeDiff, reduceCtorEq, Nat.reduceLT, ↓Br_true, ↓Br_false, bind, pure, sc5, sb5]
  (have cc := szRoomN_cv r 1048576 (by omega) (by omega); (first | ((first | refine callR (by rfl) (by rfl) (by rfl) cc ?_ | refine callM (by rfl) (by rfl) (by rfl) cc ?_ | refine callMo (by rfl) (by rfl) (by rfl) cc ?_); clear cc; rintro _ _ ⟨rfl, rfl⟩) | (refine callE (by rfl) cc (by rfl) ?_; clear cc)))
  simp (config := { maxSteps := 1000000 }) (disch := omega) only [go_sem, Int.reduceToNat, ↓reduceIte, Nat.reduceLT, Nat.reduceEqDiff, Nat.reduceAdd, Nat.reduceMul, Nat.reduceSub, Nat.reduceBEq, Nat.reduceLeDiff, reduceCtorEq, Nat.reduceLT, ↓Br_true, ↓Br_false, bind, pure, sc5, sb5, hq]
  repeat' (first | (with_reducible refine And.intro (by first | (unfold SOk; kernel_rfl) | (unfold SBOk; kernel_rfl) | (with_reducible assumption) | omega | assumption) ?_) | (with_reducible refine Br_intro (fun hc => ?_) (fun hc => ?_)) | ((with_reducible show WidN _ _ _ _ _ _ _ _); (first | refine widL (by decide) (by with_reducible assumption) ?_ | refine widL (by decide) (FWok_nn (by with_reducible assumption)) ?_ | refine widN (by decide) (fun c hc => ?_)); simp (config := { maxSteps := 1000000 }) (disch := omega) only [go_sem, Int.reduceToNat, ↓reduceIte, Nat.reduceLT, Nat.reduceEqDiff, Nat.reduceAdd, Nat.reduceMul, Nat.reduceSub, Nat.reduceBEq, Nat.reduceLeDiff, reduceCtorEq, Nat.reduceLT, ↓Br_true, ↓Br_false, bind, pure, sc5, sb5, hq]))
  have cc := toRoomN_cv r; (first | refine callR (by rfl) (by rfl) (by rfl) cc ?_ | refine callM (by rfl) (by rfl) (by rfl) cc ?_ | refine callMo (by rfl) (by rfl) (by rfl) cc ?_ | refine callG (by rfl) (by rfl) (by rfl) cc ?_ | refine callW (by rfl) (by first | rfl | (simp [ofL, kpB, kpR, ofB, isOwnB, isDead, inL, hget]; done)) (by rfl) (by rfl) cc ?_); clear cc; rintro _ _ ⟨g1, rfl, rfl⟩
  simp (config := { maxSteps := 1000000 }) (disch := omega) only [go_sem, Int.reduceToNat, ↓reduceIte, Nat.reduceLT, Nat.reduceEqDiff, Nat.reduceAdd, Nat.reduceMul, Nat.reduceSub, Nat.reduceBEq, Nat.reduceLeDiff, reduceCtorEq, Nat.reduceLT, ↓Br_true, ↓Br_false, bind, pure, sc5, sb5]
  (have cc := cs g1; (first | ((first | refine callR (by rfl) (by rfl) (by rfl) cc ?_ | refine callM (by rfl) (by rfl) (by rfl) cc ?_ | refine callMo (by rfl) (by rfl) (by rfl) cc ?_); clear cc; rintro _ _ ⟨rfl, rfl⟩) | (refine callE (by rfl) cc (by rfl) ?_; clear cc)))
  simp (config := { maxSteps := 1000000 }) (disch := omega) only [go_sem, Int.reduceToNat, ↓reduceIte, Nat.reduceLT, Nat.reduceEqDiff, Nat.reduceAdd, Nat.reduceMul, Nat.reduceSub, Nat.reduceBEq, Nat.reduceLeDiff, reduceCtorEq, Nat.reduceLT, ↓Br_true, ↓Br_false, bind, pure, sc5, sb5]
  have cc := toRoomN_cv r; (first | refine callR (by rfl) (by rfl) (by rfl) cc ?_ | refine callM (by rfl) (by rfl) (by rfl) cc ?_ | refine callMo (by rfl) (by rfl) (by rfl) cc ?_ | refine callG (by rfl) (by rfl) (by rfl) cc ?_ | refine callW (by rfl) (by first | rfl | (simp [ofL, kpB, kpR, ofB, isOwnB, isDead, inL, hget]; done)) (by rfl) (by rfl) cc ?_); clear cc; rintro _ _ ⟨g2, rfl, rfl⟩
  simp (config := { maxSteps := 1000000 }) (disch := omega) only [go_sem, Int.reduceToNat, ↓reduceIte, Nat.reduceLT, Nat.reduceEqDiff, Nat.reduceAdd, Nat.reduceMul, Nat.reduceSub, Nat.reduceBEq, Nat.reduceLeDiff, reduceCtorEq, Nat.reduceLT, ↓Br_true, ↓Br_false, bind, pure, sc5, sb5]
  (have cc := ci g2; (first | ((first | refine callR (by rfl) (by rfl) (by rfl) cc ?_ | refine callM (by rfl) (by rfl) (by rfl) cc ?_ | refine callMo (by rfl) (by rfl) (by rfl) cc ?_); clear cc; rintro _ _ ⟨rfl, rfl⟩) | (refine callE (by rfl) cc (by rfl) ?_; clear cc)))
  simp (config := { maxSteps := 1000000 }) (disch := omega) only [go_sem, Int.reduceToNat, ↓reduceIte, Nat.reduceLT, Nat.reduceEqDiff, Nat.reduceAdd, Nat.reduceMul, Nat.reduceSub, Nat.reduceBEq, Nat.reduceLeDiff, reduceCtorEq, Nat.reduceLT, ↓Br_true, ↓Br_false, bind, pure, sc5, sb5, e]
  repeat' (first | (with_reducible refine And.intro (by first | (unfold SOk; kernel_rfl) | (unfold SBOk; kernel_rfl) | (with_reducible assumption) | omega | assumption) ?_) | (with_reducible refine Br_intro (fun hc => ?_) (fun hc => ?_)) | ((with_reducible show WidN _ _ _ _ _ _ _ _); (first | refine widL (by decide) (by with_reducible assumption) ?_ | refine widL (by decide) (FWok_nn (by with_reducible assumption)) ?_ | refine widN (by decide) (fun c hc => ?_)); simp (config := { maxSteps := 1000000 }) (disch := omega) only [go_sem, Int.reduceToNat, ↓reduceIte, Nat.reduceLT, Nat.reduceEqDiff, Nat.reduceAdd, Nat.reduceMul, Nat.reduceSub, Nat.reduceBEq, Nat.reduceLeDiff, reduceCtorEq, Nat.reduceLT, ↓Br_true, ↓Br_false, bind, pure, sc5, sb5, e]))
  have cc := toRoomN_cv r; (first | refine callR (by rfl) (by rfl) (by rfl) cc ?_ | refine callM (by rfl) (by rfl) (by rfl) cc ?_ | refine callMo (by rfl) (by rfl) (by rfl) cc ?_ | refine callG (by rfl) (by rfl) (by rfl) cc ?_ | refine callW (by rfl) (by first | rfl | (simp [ofL, kpB, kpR, ofB, isOwnB, isDead, inL, hget]; done)) (by rfl) (by rfl) cc ?_); clear cc; rintro _ _ ⟨g3, rfl, rfl⟩
  simp (config := { maxSteps := 1000000 }) (disch := omega) only [go_sem, Int.reduceToNat, ↓reduceIte, Nat.reduceLT, Nat.reduceEqDiff, Nat.reduceAdd, Nat.reduceMul, Nat.reduceSub, Nat.reduceBEq, Nat.reduceLeDiff, reduceCtorEq, Nat.reduceLT, ↓Br_true, ↓Br_false, bind, pure, sc5, sb5]
  (have cc := ce g2 g3; (first | ((first | refine callR (by rfl) (by rfl) (by rfl) cc ?_ | refine callM (by rfl) (by rfl) (by rfl) cc ?_ | refine callMo (by rfl) (by rfl) (by rfl) cc ?_); clear cc; rintro _ _ ⟨rfl, rfl⟩) | (refine callE (by rfl) cc (by rfl) ?_; clear cc)))
  simp (config := { maxSteps := 1000000 }) (disch := omega) only [go_sem, Int.reduceToNat, ↓reduceIte, Nat.reduceLT, Nat.reduceEqDiff, Nat.reduceAdd, Nat.reduceMul, Nat.reduceSub, Nat.reduceBEq, Nat.reduceLeDiff, reduceCtorEq, Nat.reduceLT, ↓Br_true, ↓Br_false, bind, pure, sc5, sb5]
theorem win_rowsB {n : Nat} {f : Nat → List FV} (h : ∀ i, i < n → RowK [.i .i8, .i .i8, .f .f32] (f i)) : ∃ us : Nat → Win, (∀ i, i < n → f i = (us i).fv) ∧ (∀ i, i < n → (us i).sm) ∧ ∀ i, i < n → (us i).l < 4294967296 := by
  refine ⟨fun i => ⟨cZ f 0 i, cZ f 1 i, cN f 2 i⟩, fun i hi => ?_, fun i hi => ?_, fun i hi => ?_⟩
  all_goals (
    obtain ⟨x0, r, e, k0, h⟩ := rowK_cons (h i hi)
    obtain ⟨x1, r, rfl, k1, h⟩ := rowK_cons h
    obtain ⟨x2, r, rfl, k2, h⟩ := rowK_cons h
    obtain rfl := rowK_nil h)
  · simp only [Win.fv, cZ, cN, e, List.getD_cons_zero, List.getD_cons_succ]
    rw [← ck_f k2, ← (ck_i k0).1, ← (ck_i k1).1]
  · have a := ck_i k0
    have b := ck_i k1
    simp only [Win.sm, cZ, e, List.getD_cons_zero, List.getD_cons_succ]
    exact ⟨a.2, b.2⟩
  · simp only [cN, e, List.getD_cons_zero, List.getD_cons_succ]
    have hx := ck_f k2
    rw [hx] at k2
    obtain ⟨b, hb, hl⟩ := okf k2
    simp only [FV.val, Value.float.injEq, true_and] at hb
    rw [hb]; exact hl
theorem FnExactRoomText_c (a b : Int) (v : Value) (n cap : Nat) (f : Nat → List FV) (W : World) (hg : Gl W) (ha : -128 ≤ a ∧ a ≤ 127) (hb : -128 ≤ b ∧ b ≤ 127) (hs : SlcArg W v n cap 3 f) (hk : ∀ i, i < n → RowK [.i .i8, .i .i8, .f .f32] (f i)) :
    Calls Tryd.prog 5 #[.agg #[.int .i8 a, .int .i8 b, v]] W fun e w' => e = .returned (.bool true) ∧ Below W.heap.size W w' := by
  rcases hs with ⟨rfl, rfl, rfl⟩ | ⟨bb, off, rfl, hh⟩
  · exact (FnExactRoomTextN_cv ⟨a, b⟩ ⟨ha, hb⟩).law W hg
  · obtain ⟨us, hf, hsm, hl⟩ := win_rowsB hk
    have := (FnExactRoomTextS_cv ⟨a, b⟩ us n cap f hf hh.le (Nat.le_trans hh.le hh.top) ⟨ha, hb⟩ hsm hl).lawH (hh.holds hg) (fun l => by cases l <;> rfl)
    simpa [denL, den, FV.val] using this
end Go.Proofs.YtpcnpmhpelbndaaDoor.Vx
