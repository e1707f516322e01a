/- Rooms that are read: the reference's numbers and lines. -/
import Derived.Test.YtpcnpmhpelbndaaGreatDoorTo
import Derived.Test.YtpcnpmhpelbndaaGreatDoorTu
namespace Go.Proofs.YtpcnpmhpelbndaaGreatDoor.Vx
open Go Go.RowKit Fl
set_option maxRecDepth 100000
set_option maxHeartbeats 4000000
set_option linter.unusedSimpArgs false
set_option linter.unusedVariables false
def dd (c : UInt8) : Option Nat := if 48 ≤ c.toNat ∧ c.toNat ≤ 57 then some (c.toNat - 48) else none
def d10 : Nat → List UInt8 → Option Nat
  | acc, [] => some acc
  | acc, c :: r => match dd c with
    | some d => d10 (acc * 10 + d) r
    | none => none
/-- The whole number of a text, for the reference. -/
def sN (s : List UInt8) : Option Nat := if (1 ≤ s.length ∧ s.length ≤ 9) ∧ ¬ (s[0]? = some 48 ∧ 1 < s.length) then d10 0 s else none
theorem dd_ok {c : UInt8} {d : Nat} (h : dd c = some d) : d < 10 ∧ c = UInt8.ofNat (48 + d) := by
  unfold dd at h
  split at h
  · rename_i k
    cases h
    refine ⟨by omega, ?_⟩
    apply UInt8.toNat_inj.1
    rw [UInt8.toNat_ofNat']
    have := c.toNat_lt
    omega
  · cases h
theorem d10_app (l : List UInt8) (c : UInt8) : ∀ acc, d10 acc (l ++ [c]) = (d10 acc l).bind fun a => (dd c).map fun d => a * 10 + d := by
  induction l with
  | nil => intro acc; simp only [List.nil_append, d10]; cases dd c <;> rfl
  | cons b r ih =>
    intro acc
    simp only [List.cons_append, d10]
    cases dd b with
    | none => rfl
    | some d => exact ih _
theorem d10_dec : ∀ (n : Nat) (l : List UInt8) (u : Nat), l.length = n + 1 → ¬ (l[0]? = some 48 ∧ 1 < l.length) → d10 0 l = some u → l = Lib.decDigits u := by
  intro n
  induction n with
  | zero =>
    intro l u hn _ h
    match l, hn with
    | [c], _ =>
      simp only [d10] at h
      split at h
      · rename_i d hd
        obtain ⟨a, b⟩ := dd_ok hd
        simp only [Option.some.injEq, Nat.zero_mul, Nat.zero_add] at h
        subst h
        rw [Lib.decDigits_one a, b]
      · cases h
  | succ n ih =>
    intro l0 u hn hz h
    have hne : l0 ≠ [] := fun e => by rw [e] at hn; cases hn
    obtain ⟨l, c, rfl⟩ : ∃ l c, l0 = l ++ [c] := ⟨_, _, (List.dropLast_concat_getLast hne).symm⟩
    have hl : l.length = n + 1 := by simpa using hn
    rw [d10_app] at h
    cases e1 : d10 0 l with
    | none => rw [e1] at h; cases h
    | some a =>
      cases e2 : dd c with
      | none => rw [e1, e2] at h; cases h
      | some d =>
        rw [e1, e2] at h
        simp only [Option.bind_some, Option.map_some, Option.some.injEq] at h
        obtain ⟨q1, q2⟩ := dd_ok e2
        have h0 : (l ++ [c])[0]? = l[0]? := List.getElem?_append_left (by omega)
        rw [h0] at hz
        have hz' : ¬ l[0]? = some 48 := fun e => hz ⟨e, by simp; omega⟩
        have hL := ih l a hl (fun e => hz' e.1) e1
        have ha : 0 < a := by
          rcases Nat.eq_zero_or_pos a with rfl | h
          · exfalso
            rw [Lib.decDigits_one (by omega)] at hL
            rw [hL] at hz'
            exact hz' rfl
          · exact h
        subst h
        rw [Lib.decDigits, dif_neg (by omega), show (a * 10 + d) / 10 = a by omega, show (a * 10 + d) % 10 = d by omega, ← hL, q2]
theorem sN_dec {s : List UInt8} {n : Nat} (h : sN s = some n) : s = Lib.itoa (n : Int) := by
  unfold sN at h
  split at h
  · rename_i c
    rw [Lib.itoa_nonneg]
    exact d10_dec (s.length - 1) s n (by omega) c.2 h
  · cases h
theorem sN_small : ∀ k, k ≤ 10 → sN (if k < 10 then [UInt8.ofNat (48 + k)] else [49, 48]) = some k := by decide
theorem sN_itoa {k : Nat} (h : k ≤ 10) : sN (Lib.itoa (k : Int)) = some k := by rw [itoa_small h]; exact sN_small k h
theorem d10_lt : ∀ (l : List UInt8) (acc u : Nat), d10 acc l = some u → u < (acc + 1) * 10 ^ l.length
  | [], acc, u, h => by simp only [d10, Option.some.injEq] at h; simp; omega
  | c :: r, acc, u, h => by
    simp only [d10] at h
    split at h
    · rename_i d hd
      have h1 := d10_lt r _ _ h
      have h2 := (dd_ok hd).1
      rw [List.length_cons, Nat.pow_succ, Nat.mul_comm (10 ^ r.length), ← Nat.mul_assoc]
      exact Nat.lt_of_lt_of_le h1 (Nat.mul_le_mul_right _ (by omega))
    · cases h
theorem l01Number_cv (t : List UInt8) (ht : t.length ≤ 1048576) :
    CV Tryz.prog 62 [.f (.str (bs t))] [] (fun v h => v = .tup [.f (.int .i64 ((sN t).getD 0 : Nat)), .f (.bool (sN t).isSome)] ∧ h = []) := by
  by_cases h1 : 1 ≤ t.length ∧ t.length ≤ 9
  · have i1 : decide ((t.length : Int) < 1) = false := decide_eq_false (by omega)
    have i2 : decide ((9 : Int) < t.length) = false := decide_eq_false (by omega)
    have e0 : t.toArray[0]?.getD 0 = t[0] := by simp [show 0 < t.length by omega]
    have hg0 : t[0]? = some t[0] := List.getElem?_eq_getElem (by omega)
    by_cases hz : t[0] = 48 ∧ 1 < t.length
    · have i3 : decide (((t[0]).toNat : Int) = 48) = true := decide_eq_true (by rw [hz.1]; rfl)
      have i4 : decide ((1 : Int) < t.length) = true := decide_eq_true (by omega)
      have hn : sN t = none := by unfold sN; rw [if_neg (fun c => c.2 ⟨by rw [hg0, hz.1], hz.2⟩)]
      rw [hn]
      refine cv_of_run 1000 sc62 sb62 49 [.tmp 2, .tmp 3] tabOk (by kernel_rfl) Tryz.func62 rfl (by kernel_rfl) Tryz.ntmps62 rfl (by simp) rfl (by simp [bdL, SV.bd]) ?_
      simp (config := { maxSteps := 1000000 }) (disch := omega) only [go_sem, Int.reduceToNat, ↓reduceIte, Nat.reduceLT, Nat.reduceEqDiff, Nat.reduceAdd, Nat.reduceMul, Nat.reduceSub, Nat.reduceBEq, Nat.reduceLeDiff, reduceCtorEq, Nat.reduceLT, ↓Br_true, ↓Br_false, bind, pure, sc62, sb62, i1, i2, e0, i3, i4]
      repeat (with_reducible refine And.intro (by first | omega | assumption | (unfold SOk; kernel_rfl) | (unfold SBOk; kernel_rfl)) ?_)
      all_goals rfl
    · have hnz : ¬ (t[0]? = some 48 ∧ 1 < t.length) := fun c => hz ⟨by have := c.1; rw [hg0] at this; exact Option.some.inj this, c.2⟩
      have hN : sN t = d10 0 t := by unfold sN; rw [if_pos ⟨h1, hnz⟩]
      rw [hN]
      by_cases h48 : t[0] = 48
      · have i3 : decide (((t[0]).toNat : Int) = 48) = true := decide_eq_true (by rw [h48]; rfl)
        have i4 : decide ((1 : Int) < t.length) = false := decide_eq_false (by
          have : ¬ 1 < t.length := fun c => hz ⟨h48, c⟩
          omega)
        refine cv_of_run 1000 sc62 sb62 49 [.tmp 2, .tmp 3] tabOk (by kernel_rfl) Tryz.func62 rfl (by kernel_rfl) Tryz.ntmps62 rfl (by simp) rfl (by simp [bdL, SV.bd]) ?_
        simp (config := { maxSteps := 1000000 }) (disch := omega) only [go_sem, Int.reduceToNat, ↓reduceIte, Nat.reduceLT, Nat.reduceEqDiff, Nat.reduceAdd, Nat.reduceMul, Nat.reduceSub, Nat.reduceBEq, Nat.reduceLeDiff, reduceCtorEq, Nat.reduceLT, ↓Br_true, ↓Br_false, bind, pure, sc62, sb62, i1, i2, e0, i3, i4]
        repeat (with_reducible refine And.intro (by first | omega | assumption | (unfold SOk; kernel_rfl) | (unfold SBOk; kernel_rfl)) ?_)
        refine ⟨(Nat × Nat), fun s => s.1 ≤ t.length ∧ s.2 < 10 ^ s.1 ∧ d10 0 t = d10 s.2 (t.drop s.1), fun s => t.length - s.1, fun s => [(0, .f (.str (bs t))), (2, .f (.int .i64 0)), (3, .f (.bool false)), (4, .f (.int .i64 s.2)), (5, .f (.int .i64 s.1))], fun s => [], (0, 0), (by intro _; simp), ?_, (by (try refine Or.inl ?_); simp [Cov, covE, covH, cb_dead, cb_lit, cb_rows, cb_cells, cd_lit, cd_rows, cd_cells, cd_dead, covRow, look, SV.known, SV.bd, bdL] <;> omega), ?_⟩
        · exact ⟨by omega, by simp, rfl⟩
        · rintro ⟨k, acc⟩ ⟨hk, hacc, hs⟩
          simp only at hk hacc hs
          by_cases hlt : k < t.length
          · have hd : decide ((k : Int) < t.length) = true := decide_eq_true (by omega)
            have e1 : t.toArray[k]?.getD 0 = t[k] := by simp [hlt]
            have hdr : t.drop k = t[k] :: t.drop (k + 1) := List.drop_eq_getElem_cons hlt
            rw [hdr] at hs
            have h7 : acc ≤ 100000000 := by
              have := Nat.pow_le_pow_right (n := 10) (by omega) (show k ≤ 8 by omega)
              omega
            generalize t[k] = c at *
            have hc := c.toNat_lt
            by_cases hdig : 48 ≤ c.toNat ∧ c.toNat ≤ 57
            · have j1 : decide ((c.toNat : Int) < 48) = false := decide_eq_false (by omega)
              have j2 : decide ((57 : Int) < c.toNat) = false := decide_eq_false (by omega)
              have hs1 : dd c = some (c.toNat - 48) := by rw [dd, if_pos hdig]
              have e4 : (acc : Int) * 10 + ((c.toNat : Int) - 48) = ((acc * 10 + (c.toNat - 48) : Nat) : Int) := by omega
              simp (config := { maxSteps := 1000000 }) (disch := omega) only [go_sem, Int.reduceToNat, ↓reduceIte, Nat.reduceLT, Nat.reduceEqDiff, Nat.reduceAdd, Nat.reduceMul, Nat.reduceSub, Nat.reduceBEq, Nat.reduceLeDiff, reduceCtorEq, Nat.reduceLT, ↓Br_true, ↓Br_false, bind, pure, sc62, sb62, hd, e1, j1, j2, e4]
              refine ⟨⟨by omega, by omega⟩, ⟨by omega, by omega⟩, ⟨by omega, by omega⟩, (k + 1, acc * 10 + (c.toNat - 48)), ⟨by dsimp only; omega, ?_, ?_⟩, by dsimp only; omega, by (try refine Or.inl ?_); simp [Cov, covE, covH, cb_dead, cb_lit, cb_rows, cb_cells, cd_lit, cd_rows, cd_cells, cd_dead, covRow, look, SV.known, SV.bd, bdL] <;> omega⟩
              · dsimp only; rw [Nat.pow_succ]; omega
              · dsimp only; rw [hs, d10, hs1]
            · have hs1 : dd c = none := by rw [dd, if_neg hdig]
              rw [d10, hs1] at hs
              rw [hs]
              by_cases j : c.toNat < 48
              · have j1 : decide ((c.toNat : Int) < 48) = true := decide_eq_true (by omega)
                simp (config := { maxSteps := 1000000 }) (disch := omega) only [go_sem, Int.reduceToNat, ↓reduceIte, Nat.reduceLT, Nat.reduceEqDiff, Nat.reduceAdd, Nat.reduceMul, Nat.reduceSub, Nat.reduceBEq, Nat.reduceLeDiff, reduceCtorEq, Nat.reduceLT, ↓Br_true, ↓Br_false, bind, pure, sc62, sb62, hd, e1, j1]
                exact ⟨⟨by omega, by omega⟩, rfl⟩
              · have j1 : decide ((c.toNat : Int) < 48) = false := decide_eq_false (by omega)
                have j2 : decide ((57 : Int) < c.toNat) = true := decide_eq_true (by omega)
                simp (config := { maxSteps := 1000000 }) (disch := omega) only [go_sem, Int.reduceToNat, ↓reduceIte, Nat.reduceLT, Nat.reduceEqDiff, Nat.reduceAdd, Nat.reduceMul, Nat.reduceSub, Nat.reduceBEq, Nat.reduceLeDiff, reduceCtorEq, Nat.reduceLT, ↓Br_true, ↓Br_false, bind, pure, sc62, sb62, hd, e1, j1, j2]
                exact ⟨⟨by omega, by omega⟩, ⟨by omega, by omega⟩, rfl⟩
          · have hd : decide ((k : Int) < t.length) = false := decide_eq_false (by omega)
            obtain rfl : k = t.length := by omega
            rw [List.drop_length, d10] at hs
            rw [hs]
            simp (config := { maxSteps := 1000000 }) (disch := omega) only [go_sem, Int.reduceToNat, ↓reduceIte, Nat.reduceLT, Nat.reduceEqDiff, Nat.reduceAdd, Nat.reduceMul, Nat.reduceSub, Nat.reduceBEq, Nat.reduceLeDiff, reduceCtorEq, Nat.reduceLT, ↓Br_true, ↓Br_false, bind, pure, sc62, sb62, hd]
            all_goals rfl
      · have i3 : decide (((t[0]).toNat : Int) = 48) = false := decide_eq_false fun c => h48 (UInt8.toNat_inj.1 (by
          have : (48 : UInt8).toNat = 48 := rfl
          omega))
        refine cv_of_run 1000 sc62 sb62 49 [.tmp 2, .tmp 3] tabOk (by kernel_rfl) Tryz.func62 rfl (by kernel_rfl) Tryz.ntmps62 rfl (by simp) rfl (by simp [bdL, SV.bd]) ?_
        simp (config := { maxSteps := 1000000 }) (disch := omega) only [go_sem, Int.reduceToNat, ↓reduceIte, Nat.reduceLT, Nat.reduceEqDiff, Nat.reduceAdd, Nat.reduceMul, Nat.reduceSub, Nat.reduceBEq, Nat.reduceLeDiff, reduceCtorEq, Nat.reduceLT, ↓Br_true, ↓Br_false, bind, pure, sc62, sb62, i1, i2, e0, i3]
        repeat (with_reducible refine And.intro (by first | omega | assumption | (unfold SOk; kernel_rfl) | (unfold SBOk; kernel_rfl)) ?_)
        refine ⟨(Nat × Nat), fun s => s.1 ≤ t.length ∧ s.2 < 10 ^ s.1 ∧ d10 0 t = d10 s.2 (t.drop s.1), fun s => t.length - s.1, fun s => [(0, .f (.str (bs t))), (2, .f (.int .i64 0)), (3, .f (.bool false)), (4, .f (.int .i64 s.2)), (5, .f (.int .i64 s.1))], fun s => [], (0, 0), (by intro _; simp), ?_, (by (try refine Or.inl ?_); simp [Cov, covE, covH, cb_dead, cb_lit, cb_rows, cb_cells, cd_lit, cd_rows, cd_cells, cd_dead, covRow, look, SV.known, SV.bd, bdL] <;> omega), ?_⟩
        · exact ⟨by omega, by simp, rfl⟩
        · rintro ⟨k, acc⟩ ⟨hk, hacc, hs⟩
          simp only at hk hacc hs
          by_cases hlt : k < t.length
          · have hd : decide ((k : Int) < t.length) = true := decide_eq_true (by omega)
            have e1 : t.toArray[k]?.getD 0 = t[k] := by simp [hlt]
            have hdr : t.drop k = t[k] :: t.drop (k + 1) := List.drop_eq_getElem_cons hlt
            rw [hdr] at hs
            have h7 : acc ≤ 100000000 := by
              have := Nat.pow_le_pow_right (n := 10) (by omega) (show k ≤ 8 by omega)
              omega
            generalize t[k] = c at *
            have hc := c.toNat_lt
            by_cases hdig : 48 ≤ c.toNat ∧ c.toNat ≤ 57
            · have j1 : decide ((c.toNat : Int) < 48) = false := decide_eq_false (by omega)
              have j2 : decide ((57 : Int) < c.toNat) = false := decide_eq_false (by omega)
              have hs1 : dd c = some (c.toNat - 48) := by rw [dd, if_pos hdig]
              have e4 : (acc : Int) * 10 + ((c.toNat : Int) - 48) = ((acc * 10 + (c.toNat - 48) : Nat) : Int) := by omega
              simp (config := { maxSteps := 1000000 }) (disch := omega) only [go_sem, Int.reduceToNat, ↓reduceIte, Nat.reduceLT, Nat.reduceEqDiff, Nat.reduceAdd, Nat.reduceMul, Nat.reduceSub, Nat.reduceBEq, Nat.reduceLeDiff, reduceCtorEq, Nat.reduceLT, ↓Br_true, ↓Br_false, bind, pure, sc62, sb62, hd, e1, j1, j2, e4]
              refine ⟨⟨by omega, by omega⟩, ⟨by omega, by omega⟩, ⟨by omega, by omega⟩, (k + 1, acc * 10 + (c.toNat - 48)), ⟨by dsimp only; omega, ?_, ?_⟩, by dsimp only; omega, by (try refine Or.inl ?_); simp [Cov, covE, covH, cb_dead, cb_lit, cb_rows, cb_cells, cd_lit, cd_rows, cd_cells, cd_dead, covRow, look, SV.known, SV.bd, bdL] <;> omega⟩
              · dsimp only; rw [Nat.pow_succ]; omega
              · dsimp only; rw [hs, d10, hs1]
            · have hs1 : dd c = none := by rw [dd, if_neg hdig]
              rw [d10, hs1] at hs
              rw [hs]
              by_cases j : c.toNat < 48
              · have j1 : decide ((c.toNat : Int) < 48) = true := decide_eq_true (by omega)
                simp (config := { maxSteps := 1000000 }) (disch := omega) only [go_sem, Int.reduceToNat, ↓reduceIte, Nat.reduceLT, Nat.reduceEqDiff, Nat.reduceAdd, Nat.reduceMul, Nat.reduceSub, Nat.reduceBEq, Nat.reduceLeDiff, reduceCtorEq, Nat.reduceLT, ↓Br_true, ↓Br_false, bind, pure, sc62, sb62, hd, e1, j1]
                exact ⟨⟨by omega, by omega⟩, rfl⟩
              · have j1 : decide ((c.toNat : Int) < 48) = false := decide_eq_false (by omega)
                have j2 : decide ((57 : Int) < c.toNat) = true := decide_eq_true (by omega)
                simp (config := { maxSteps := 1000000 }) (disch := omega) only [go_sem, Int.reduceToNat, ↓reduceIte, Nat.reduceLT, Nat.reduceEqDiff, Nat.reduceAdd, Nat.reduceMul, Nat.reduceSub, Nat.reduceBEq, Nat.reduceLeDiff, reduceCtorEq, Nat.reduceLT, ↓Br_true, ↓Br_false, bind, pure, sc62, sb62, hd, e1, j1, j2]
                exact ⟨⟨by omega, by omega⟩, ⟨by omega, by omega⟩, rfl⟩
          · have hd : decide ((k : Int) < t.length) = false := decide_eq_false (by omega)
            obtain rfl : k = t.length := by omega
            rw [List.drop_length, d10] at hs
            rw [hs]
            simp (config := { maxSteps := 1000000 }) (disch := omega) only [go_sem, Int.reduceToNat, ↓reduceIte, Nat.reduceLT, Nat.reduceEqDiff, Nat.reduceAdd, Nat.reduceMul, Nat.reduceSub, Nat.reduceBEq, Nat.reduceLeDiff, reduceCtorEq, Nat.reduceLT, ↓Br_true, ↓Br_false, bind, pure, sc62, sb62, hd]
            all_goals rfl
  · have hn : sN t = none := by unfold sN; rw [if_neg (fun c => h1 c.1)]
    rw [hn]
    by_cases h2 : t.length < 1
    · have i1 : decide ((t.length : Int) < 1) = true := decide_eq_true (by omega)
      refine cv_of_run 1000 sc62 sb62 49 [.tmp 2, .tmp 3] tabOk (by kernel_rfl) Tryz.func62 rfl (by kernel_rfl) Tryz.ntmps62 rfl (by simp) rfl (by simp [bdL, SV.bd]) ?_
      simp (config := { maxSteps := 1000000 }) (disch := omega) only [go_sem, Int.reduceToNat, ↓reduceIte, Nat.reduceLT, Nat.reduceEqDiff, Nat.reduceAdd, Nat.reduceMul, Nat.reduceSub, Nat.reduceBEq, Nat.reduceLeDiff, reduceCtorEq, Nat.reduceLT, ↓Br_true, ↓Br_false, bind, pure, sc62, sb62, i1]
      all_goals rfl
    · have i1 : decide ((t.length : Int) < 1) = false := decide_eq_false (by omega)
      have i2 : decide ((9 : Int) < t.length) = true := decide_eq_true (by omega)
      refine cv_of_run 1000 sc62 sb62 49 [.tmp 2, .tmp 3] tabOk (by kernel_rfl) Tryz.func62 rfl (by kernel_rfl) Tryz.ntmps62 rfl (by simp) rfl (by simp [bdL, SV.bd]) ?_
      simp (config := { maxSteps := 1000000 }) (disch := omega) only [go_sem, Int.reduceToNat, ↓reduceIte, Nat.reduceLT, Nat.reduceEqDiff, Nat.reduceAdd, Nat.reduceMul, Nat.reduceSub, Nat.reduceBEq, Nat.reduceLeDiff, reduceCtorEq, Nat.reduceLT, ↓Br_true, ↓Br_false, bind, pure, sc62, sb62, i1, i2]
      all_goals rfl
end Go.Proofs.YtpcnpmhpelbndaaGreatDoor.Vx
