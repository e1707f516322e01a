/- The text of a room. -/
import Derived.Test.YtjhddlkfkicpaaaGreatDoorTd
import Derived.Test.YtjhddlkfkicpaaaGreatDoorRy
namespace Go.Proofs.YtjhddlkfkicpaaaGreatDoor.Vx
open Go Go.RowKit Fl
set_option maxRecDepth 100000
set_option maxHeartbeats 4000000
set_option linter.unusedSimpArgs false
set_option linter.unusedVariables false
def lett (w : Int) : UInt8 := if w = 0 then 110 else if w = 1 then 101 else if w = 2 then 115 else 119
theorem lett_ex {w : Int} (h : 0 ≤ w ∧ w ≤ 3) : ByteArray.extract ⟨#[110, 101, 115, 119]⟩ w.toNat (w + 1).toNat = bs [lett w] := by
  have : w = 0 ∨ w = 1 ∨ w = 2 ∨ w = 3 := by omega
  rcases this with rfl | rfl | rfl | rfl <;> rfl
/-- The row of a window. -/
def winT (u : Win) : List UInt8 := [lett u.w] ++ Lib.itoa u.a ++ [47] ++ hexN (tbits u.l) 8 ++ [10]
def winsT (r0 : List UInt8) (us : Nat → Win) : Nat → List UInt8
  | 0 => r0
  | k + 1 => winsT r0 us k ++ winT (us k)
def headT (r : Rom) : List UInt8 := Lib.itoa r.wi ++ [120] ++ Lib.itoa r.hi ++ [10]
def romT (r : Rom) (us : Nat → Win) (n : Nat) : List UInt8 := winsT (headT r) us n
def romS (r : Rom) (us : Nat → Win) (n : Nat) : List UInt8 := if vRoom r us n then romT r us n else []
theorem winT_len {u : Win} (h : u.sm) : (winT u).length ≤ 32 := by
  have := Lib.itoa_length_le u.a (by have := h.2; omega) (by have := h.2; omega)
  simp only [winT, List.length_append, hexN_len, List.length_cons, List.length_nil]
  omega
theorem headT_len {r : Rom} (h : r.sz) : (headT r).length ≤ 44 := by
  have a := Lib.itoa_length_le r.wi (by have := h.1; omega) (by have := h.1; omega)
  have b := Lib.itoa_length_le r.hi (by have := h.2; omega) (by have := h.2; omega)
  simp only [headT, List.length_append, List.length_cons, List.length_nil]
  omega
theorem winsT_len {r0 : List UInt8} {us : Nat → Win} : ∀ n, (∀ i, i < n → (us i).sm) → (winsT r0 us n).length ≤ r0.length + 32 * n
  | 0, _ => Nat.le_refl _
  | n + 1, h => by
    have := winsT_len (r0 := r0) n fun i hi => h i (by omega)
    have := winT_len (h n (by omega))
    simp only [winsT, List.length_append]
    omega
theorem RoomText_cv (r : Rom) (us : Nat → Win) (n cap : Nat) (f : Nat → List FV) (H : RomH r us n cap f) (hb : ∀ i, i < n → (us i).l < 4294967296) :
    CV Tryz.prog 8 [romV r n cap] [.rows n cap 3 f false] (fun v h => v = .f (.str (bs (romS r us n))) ∧ h = [.rows n cap 3 f false]) := by
  have cv := ValidRoom_cv r us n cap f H
  obtain ⟨hf, hcap, hn, ⟨_, _⟩, ⟨_, _⟩, hs⟩ := H
  cases hv : vRoom r us n
  all_goals rw [hv] at cv
  · refine cv_of_run 1000 sc8 sb8 48 [.tmp 2] tabOk (by kernel_rfl) Tryz.func8 rfl (by kernel_rfl) Tryz.ntmps8 rfl (by simp) rfl (by simp [bdL, SV.bd]) ?_
    simp (config := { maxSteps := 1000000 }) (disch := omega) only [go_sem, Int.reduceToNat, ↓reduceIte, Nat.reduceLT, Nat.reduceEqDiff, Nat.reduceAdd, Nat.reduceMul, Nat.reduceSub, Nat.reduceBEq, Nat.reduceLeDiff, reduceCtorEq, Nat.reduceLT, ↓Br_true, ↓Br_false, bind, pure, sc8, sb8, hv]
    repeat' (first | (with_reducible refine And.intro (by first | (unfold SOk; kernel_rfl) | (unfold SBOk; kernel_rfl) | (with_reducible assumption) | omega | assumption) ?_) | (with_reducible refine Br_intro (fun hc => ?_) (fun hc => ?_)) | ((have cc := cv; (first | ((first | refine callR (by rfl) (by rfl) (by rfl) cc ?_ | refine callM (by rfl) (by rfl) (by rfl) cc ?_ | refine callMo (by rfl) (by rfl) (by rfl) cc ?_); clear cc; rintro _ _ ⟨rfl, rfl⟩) | (refine callE (by rfl) cc (by rfl) ?_; clear cc))); simp (config := { maxSteps := 1000000 }) (disch := omega) only [go_sem, Int.reduceToNat, ↓reduceIte, Nat.reduceLT, Nat.reduceEqDiff, Nat.reduceAdd, Nat.reduceMul, Nat.reduceSub, Nat.reduceBEq, Nat.reduceLeDiff, reduceCtorEq, Nat.reduceLT, ↓Br_true, ↓Br_false, bind, pure, sc8, sb8, hv]) | ((with_reducible show WidN _ _ _ _ _ _ _ _); (first | refine widL (by decide) (by with_reducible assumption) ?_ | refine widL (by decide) (FWok_nn (by with_reducible assumption)) ?_ | refine widN (by decide) (fun c hc => ?_)); simp (config := { maxSteps := 1000000 }) (disch := omega) only [go_sem, Int.reduceToNat, ↓reduceIte, Nat.reduceLT, Nat.reduceEqDiff, Nat.reduceAdd, Nat.reduceMul, Nat.reduceSub, Nat.reduceBEq, Nat.reduceLeDiff, reduceCtorEq, Nat.reduceLT, ↓Br_true, ↓Br_false, bind, pure, sc8, sb8, hv]))
    simp [romS, hv]
  · obtain ⟨hz, h12, hw⟩ := vRoom_at hv
    have c1 := decimal_cv r.wi (by have := hz.1; omega) (by have := hz.1; omega)
    have c2 := decimal_cv r.hi (by have := hz.2; omega) (by have := hz.2; omega)
    have hl := headT_len hz
    have l1 := Lib.itoa_length_le r.wi (by have := hz.1; omega) (by have := hz.1; omega)
    have l2 := Lib.itoa_length_le r.hi (by have := hz.2; omega) (by have := hz.2; omega)
    have a1 := bs_add (Lib.itoa r.wi) [120]
    have a2 := bs_add (Lib.itoa r.wi ++ [120]) (Lib.itoa r.hi)
    have a3 : bs (Lib.itoa r.wi ++ [120] ++ Lib.itoa r.hi) ++ bs [10] = bs (headT r) := bs_add _ _
    have a4 : (Lib.itoa r.wi ++ [120] ++ Lib.itoa r.hi).length ≤ 43 := by simp; omega
    refine cv_of_run 1000 sc8 sb8 48 [.tmp 2] tabOk (by kernel_rfl) Tryz.func8 rfl (by kernel_rfl) Tryz.ntmps8 rfl (by simp) rfl (by simp [bdL, SV.bd]) ?_
    simp (config := { maxSteps := 1000000 }) (disch := omega) only [go_sem, Int.reduceToNat, ↓reduceIte, Nat.reduceLT, Nat.reduceEqDiff, Nat.reduceAdd, Nat.reduceMul, Nat.reduceSub, Nat.reduceBEq, Nat.reduceLeDiff, reduceCtorEq, Nat.reduceLT, ↓Br_true, ↓Br_false, bind, pure, sc8, sb8, hv]
    repeat' (first | (with_reducible refine And.intro (by first | (unfold SOk; kernel_rfl) | (unfold SBOk; kernel_rfl) | (with_reducible assumption) | omega | assumption) ?_) | (with_reducible refine Br_intro (fun hc => ?_) (fun hc => ?_)) | ((have cc := cv; (first | ((first | refine callR (by rfl) (by rfl) (by rfl) cc ?_ | refine callM (by rfl) (by rfl) (by rfl) cc ?_ | refine callMo (by rfl) (by rfl) (by rfl) cc ?_); clear cc; rintro _ _ ⟨rfl, rfl⟩) | (refine callE (by rfl) cc (by rfl) ?_; clear cc))); simp (config := { maxSteps := 1000000 }) (disch := omega) only [go_sem, Int.reduceToNat, ↓reduceIte, Nat.reduceLT, Nat.reduceEqDiff, Nat.reduceAdd, Nat.reduceMul, Nat.reduceSub, Nat.reduceBEq, Nat.reduceLeDiff, reduceCtorEq, Nat.reduceLT, ↓Br_true, ↓Br_false, bind, pure, sc8, sb8, hv, a1, a2, a3, List.length_append]) | ((have cc := c1; (first | ((first | refine callR (by rfl) (by rfl) (by rfl) cc ?_ | refine callM (by rfl) (by rfl) (by rfl) cc ?_ | refine callMo (by rfl) (by rfl) (by rfl) cc ?_); clear cc; rintro _ _ ⟨rfl, rfl⟩) | (refine callE (by rfl) cc (by rfl) ?_; clear cc))); simp (config := { maxSteps := 1000000 }) (disch := omega) only [go_sem, Int.reduceToNat, ↓reduceIte, Nat.reduceLT, Nat.reduceEqDiff, Nat.reduceAdd, Nat.reduceMul, Nat.reduceSub, Nat.reduceBEq, Nat.reduceLeDiff, reduceCtorEq, Nat.reduceLT, ↓Br_true, ↓Br_false, bind, pure, sc8, sb8, hv, a1, a2, a3, List.length_append]) | ((have cc := c2; (first | ((first | refine callR (by rfl) (by rfl) (by rfl) cc ?_ | refine callM (by rfl) (by rfl) (by rfl) cc ?_ | refine callMo (by rfl) (by rfl) (by rfl) cc ?_); clear cc; rintro _ _ ⟨rfl, rfl⟩) | (refine callE (by rfl) cc (by rfl) ?_; clear cc))); simp (config := { maxSteps := 1000000 }) (disch := omega) only [go_sem, Int.reduceToNat, ↓reduceIte, Nat.reduceLT, Nat.reduceEqDiff, Nat.reduceAdd, Nat.reduceMul, Nat.reduceSub, Nat.reduceBEq, Nat.reduceLeDiff, reduceCtorEq, Nat.reduceLT, ↓Br_true, ↓Br_false, bind, pure, sc8, sb8, hv, a1, a2, a3, List.length_append]) | ((with_reducible show WidN _ _ _ _ _ _ _ _); (first | refine widL (by decide) (by with_reducible assumption) ?_ | refine widL (by decide) (FWok_nn (by with_reducible assumption)) ?_ | refine widN (by decide) (fun c hc => ?_)); simp (config := { maxSteps := 1000000 }) (disch := omega) only [go_sem, Int.reduceToNat, ↓reduceIte, Nat.reduceLT, Nat.reduceEqDiff, Nat.reduceAdd, Nat.reduceMul, Nat.reduceSub, Nat.reduceBEq, Nat.reduceLeDiff, reduceCtorEq, Nat.reduceLT, ↓Br_true, ↓Br_false, bind, pure, sc8, sb8, hv, a1, a2, a3, List.length_append]))
    refine ⟨Nat, fun k => k ≤ n, fun k => n - k, fun k => [(2, .f (.str (bs []))), (3, .f (.str (bs (winsT (headT r) us k)))), (21, .slc 0 0 n cap), (22, .f (.int .i64 n)), (23, .f (.int .i64 k))], fun _ => [.rows n cap 3 f false, .lit [.f (.int .i8 r.wi), .f (.int .i8 r.hi), .slc 0 0 n cap] true], 0, (by intro _; simp), ?_, (by (try refine Or.inl ?_); simp [Cov, covE, covH, cb_dead, cb_lit, cb_rows, cb_cells, cd_lit, cd_rows, cd_cells, cd_dead, covRow, look, SV.known, SV.bd, bdL, winsT, hcap] <;> omega), ?_⟩
    · exact Nat.zero_le _
    · intro k hk
      by_cases hlt : k < n
      · have hd : decide ((k : Int) < n) = true := decide_eq_true (by omega)
        have e1 := hf k hlt
        simp only [Win.fv] at e1
        obtain ⟨u0, u1, u2, _⟩ := win_ok hz (allW_at hw hlt)
        have c3 := decimal_cv (us k).a (by omega) (by omega)
        have c4 := NumberText_cv (us k).l (hb k hlt)
        have e2 := lett_ex u0
        have l3 := Lib.itoa_length_le (us k).a (by omega) (by omega)
        have l4 := hexN_len 8 (tbits (us k).l)
        have l5 := winsT_len (r0 := headT r) k (fun i hi => hs i (by omega))
        obtain ⟨W1, h1⟩ : ∃ W, W = [lett (us k).w] ++ Lib.itoa (us k).a := ⟨_, rfl⟩
        obtain ⟨W2, h2⟩ : ∃ W, W = W1 ++ [47] := ⟨_, rfl⟩
        obtain ⟨W3, h3⟩ : ∃ W, W = W2 ++ hexN (tbits (us k).l) 8 := ⟨_, rfl⟩
        obtain ⟨W4, h4⟩ : ∃ W, W = W3 ++ [10] := ⟨_, rfl⟩
        have b1 : bs [lett (us k).w] ++ bs (Lib.itoa (us k).a) = bs W1 := by rw [h1]; exact bs_add _ _
        have b2 : bs W1 ++ bs [47] = bs W2 := by rw [h2]; exact bs_add _ _
        have b3 : bs W2 ++ bs (hexN (tbits (us k).l) 8) = bs W3 := by rw [h3]; exact bs_add _ _
        have b4 : bs W3 ++ bs [10] = bs W4 := by rw [h4]; exact bs_add _ _
        have b5 : bs (winsT (headT r) us k) ++ bs W4 = bs (winsT (headT r) us (k + 1)) := by rw [h4, h3, h2, h1]; exact bs_add _ _
        have q1 : W1.length ≤ 22 := by rw [h1]; simp; omega
        have q2 : W2.length ≤ 23 := by rw [h2]; simp; omega
        have q3 : W3.length ≤ 31 := by rw [h3]; simp; omega
        have q4 : W4.length ≤ 32 := by rw [h4]; simp; omega
        clear h1 h2 h3 h4
        generalize hexN (tbits (us k).l) 8 = N at *
        generalize Lib.itoa (us k).a = A at *
        generalize lett (us k).w = L at *
        simp (config := { maxSteps := 1000000 }) (disch := omega) only [go_sem, Int.reduceToNat, ↓reduceIte, Nat.reduceLT, Nat.reduceEqDiff, Nat.reduceAdd, Nat.reduceMul, Nat.reduceSub, Nat.reduceBEq, Nat.reduceLeDiff, reduceCtorEq, Nat.reduceLT, ↓Br_true, ↓Br_false, bind, pure, sc8, sb8, hd, e1]
        repeat (with_reducible refine And.intro (by first | omega | assumption | (unfold SOk; kernel_rfl) | (unfold SBOk; kernel_rfl)) ?_)
        repeat' (first | (with_reducible refine And.intro (by first | (unfold SOk; kernel_rfl) | (unfold SBOk; kernel_rfl) | (with_reducible assumption) | omega | assumption) ?_) | (with_reducible refine Br_intro (fun hc => ?_) (fun hc => ?_)) | ((have cc := c3; (first | ((first | refine callR (by rfl) (by rfl) (by rfl) cc ?_ | refine callM (by rfl) (by rfl) (by rfl) cc ?_ | refine callMo (by rfl) (by rfl) (by rfl) cc ?_); clear cc; rintro _ _ ⟨rfl, rfl⟩) | (refine callE (by rfl) cc (by rfl) ?_; clear cc))); simp (config := { maxSteps := 1000000 }) (disch := omega) only [go_sem, Int.reduceToNat, ↓reduceIte, Nat.reduceLT, Nat.reduceEqDiff, Nat.reduceAdd, Nat.reduceMul, Nat.reduceSub, Nat.reduceBEq, Nat.reduceLeDiff, reduceCtorEq, Nat.reduceLT, ↓Br_true, ↓Br_false, bind, pure, sc8, sb8, hd, e1, e2, b1, b2, b3, b4, b5]) | ((have cc := c4; (first | ((first | refine callR (by rfl) (by rfl) (by rfl) cc ?_ | refine callM (by rfl) (by rfl) (by rfl) cc ?_ | refine callMo (by rfl) (by rfl) (by rfl) cc ?_); clear cc; rintro _ _ ⟨rfl, rfl⟩) | (refine callE (by rfl) cc (by rfl) ?_; clear cc))); simp (config := { maxSteps := 1000000 }) (disch := omega) only [go_sem, Int.reduceToNat, ↓reduceIte, Nat.reduceLT, Nat.reduceEqDiff, Nat.reduceAdd, Nat.reduceMul, Nat.reduceSub, Nat.reduceBEq, Nat.reduceLeDiff, reduceCtorEq, Nat.reduceLT, ↓Br_true, ↓Br_false, bind, pure, sc8, sb8, hd, e1, e2, b1, b2, b3, b4, b5]) | ((with_reducible show WidN _ _ _ _ _ _ _ _); (first | refine widL (by decide) (by with_reducible assumption) ?_ | refine widL (by decide) (FWok_nn (by with_reducible assumption)) ?_ | refine widN (by decide) (fun c hc => ?_)); simp (config := { maxSteps := 1000000 }) (disch := omega) only [go_sem, Int.reduceToNat, ↓reduceIte, Nat.reduceLT, Nat.reduceEqDiff, Nat.reduceAdd, Nat.reduceMul, Nat.reduceSub, Nat.reduceBEq, Nat.reduceLeDiff, reduceCtorEq, Nat.reduceLT, ↓Br_true, ↓Br_false, bind, pure, sc8, sb8, hd, e1, e2, b1, b2, b3, b4, b5]))
        exact ⟨k + 1, by omega, by omega, by (try refine Or.inl ?_); simp [Cov, covE, covH, cb_dead, cb_lit, cb_rows, cb_cells, cd_lit, cd_rows, cd_cells, cd_dead, covRow, look, SV.known, SV.bd, bdL, hcap] <;> omega⟩
      · have hd : decide ((k : Int) < n) = false := decide_eq_false (by omega)
        obtain rfl : k = n := by omega
        simp (config := { maxSteps := 1000000 }) (disch := omega) only [go_sem, Int.reduceToNat, ↓reduceIte, Nat.reduceLT, Nat.reduceEqDiff, Nat.reduceAdd, Nat.reduceMul, Nat.reduceSub, Nat.reduceBEq, Nat.reduceLeDiff, reduceCtorEq, Nat.reduceLT, ↓Br_true, ↓Br_false, bind, pure, sc8, sb8, hd]
        simp [romS, hv, romT]
end Go.Proofs.YtjhddlkfkicpaaaGreatDoor.Vx
