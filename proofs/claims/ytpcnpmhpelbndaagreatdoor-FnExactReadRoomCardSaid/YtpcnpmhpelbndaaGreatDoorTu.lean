/- Numbers that are read: the reference. -/
import Derived.Test.YtpcnpmhpelbndaaGreatDoorTr
namespace Go.Proofs.YtpcnpmhpelbndaaGreatDoor.Vx
open Go Go.RowKit Fl Hex16
set_option maxRecDepth 100000
set_option maxHeartbeats 4000000
set_option linter.unusedSimpArgs false
set_option linter.unusedVariables false
def srF (t : List UInt8) : Nat := if t.length = 8 then (s16 0 t).getD 0 else 0
theorem srF_num {t : List UInt8} {u : Nat} (h : num t = some u) : srF t = u := by
  obtain ⟨h1, h2, h3⟩ := num_iff.1 h
  have : s16 0 t = some u := by rw [h1]; exact s16_hexN 8 u (by omega)
  rw [srF, if_pos (by rw [h1, hexN_len]), this]; rfl
theorem l01Read_cv (t : List UInt8) (ht : t.length ≤ 1048576) :
    CV Tryz.prog 129 [.f (.str (bs t))] [] (fun v h => v = .tup [.f (.flt .f32 (srF t)), .f (.bool (num t).isSome)] ∧ h = []) := by
  by_cases h8 : t.length = 8
  · have h8' : decide ((t.length : Int) = 8) = true := decide_eq_true (by omega)
    refine cv_of_run 1000 sc129 sb129 52 [.tmp 2, .tmp 3] tabOk (by kernel_rfl) Tryz.func129 rfl (by kernel_rfl) Tryz.ntmps129 rfl (by simp) rfl (by simp [bdL, SV.bd]) ?_
    simp (config := { maxSteps := 1000000 }) (disch := omega) only [go_sem, Int.reduceToNat, ↓reduceIte, Nat.reduceLT, Nat.reduceEqDiff, Nat.reduceAdd, Nat.reduceMul, Nat.reduceSub, Nat.reduceBEq, Nat.reduceLeDiff, reduceCtorEq, Nat.reduceLT, ↓Br_true, ↓Br_false, bind, pure, sc129, sb129, h8']
    refine ⟨(Nat × Nat), fun s => s.1 ≤ 8 ∧ s.2 < 16 ^ s.1 ∧ s16 0 t = s16 s.2 (t.drop s.1), fun s => 8 - s.1, fun s => [(0, .f (.str (bs t))), (2, .f (.flt .f32 0)), (3, .f (.bool false)), (4, .f (.int .u32 s.2)), (5, .f (.int .i64 s.1))], fun s => [], (0, 0), (by intro _; simp), ?_, (by (try refine Or.inl ?_); simp [Cov, covE, covH, cb_dead, cb_lit, cb_rows, cb_cells, cd_lit, cd_rows, cd_cells, cd_dead, covRow, look, SV.known, SV.bd, bdL] <;> omega), ?_⟩
    · exact ⟨by omega, by simp, rfl⟩
    · rintro ⟨k, acc⟩ ⟨hk, hacc, hs⟩
      simp only at hk hacc hs
      by_cases hlt : k < 8
      · have hd : decide ((k : Int) < 8) = true := decide_eq_true (by omega)
        have hkt : k < t.length := by omega
        have e1 : t.toArray[k]?.getD 0 = t[k] := by simp [hkt]
        have hdr : t.drop k = t[k] :: t.drop (k + 1) := List.drop_eq_getElem_cons hkt
        rw [hdr] at hs
        have h7 : acc ≤ 268435455 := by
          have := Nat.pow_le_pow_right (n := 16) (by omega) (show k ≤ 7 by omega)
          omega
        generalize t[k] = c at *
        have hc := c.toNat_lt
        by_cases hdig : 48 ≤ c.toNat ∧ c.toNat ≤ 57
        · have i1 : decide ((48 : Int) ≤ c.toNat) = true := decide_eq_true (by omega)
          have i2 : decide ((c.toNat : Int) ≤ 57) = true := decide_eq_true (by omega)
          have hs1 : sd c = some (c.toNat - 48) := by rw [sd, if_pos hdig]
          have e4 : (acc : Int) * 16 + ((c.toNat : Int) - 48) = ((acc * 16 + (c.toNat - 48) : Nat) : Int) := by omega
          simp (config := { maxSteps := 1000000 }) (disch := omega) only [go_sem, Int.reduceToNat, ↓reduceIte, Nat.reduceLT, Nat.reduceEqDiff, Nat.reduceAdd, Nat.reduceMul, Nat.reduceSub, Nat.reduceBEq, Nat.reduceLeDiff, reduceCtorEq, Nat.reduceLT, ↓Br_true, ↓Br_false, bind, pure, sc129, sb129, hd, e1, i1, i2, e4]
          refine ⟨⟨by omega, by omega⟩, (k + 1, acc * 16 + (c.toNat - 48)), ⟨by dsimp only; omega, ?_, ?_⟩, by dsimp only; omega, by (try refine Or.inl ?_); simp [Cov, covE, covH, cb_dead, cb_lit, cb_rows, cb_cells, cd_lit, cd_rows, cd_cells, cd_dead, covRow, look, SV.known, SV.bd, bdL] <;> omega⟩
          · dsimp only; rw [Nat.pow_succ]; omega
          · dsimp only; rw [hs, s16, hs1]
        · by_cases hlet : 97 ≤ c.toNat ∧ c.toNat ≤ 102
          · have i1 : decide ((48 : Int) ≤ c.toNat) = true := decide_eq_true (by omega)
            have i2 : decide ((c.toNat : Int) ≤ 57) = false := decide_eq_false (by omega)
            have i3 : decide ((97 : Int) ≤ c.toNat) = true := decide_eq_true (by omega)
            have i4 : decide ((c.toNat : Int) ≤ 102) = true := decide_eq_true (by omega)
            have hs1 : sd c = some (c.toNat - 87) := by rw [sd, if_neg hdig, if_pos hlet]
            have e4 : (acc : Int) * 16 + ((c.toNat : Int) - 97) + 10 = ((acc * 16 + (c.toNat - 87) : Nat) : Int) := by omega
            simp (config := { maxSteps := 1000000 }) (disch := omega) only [go_sem, Int.reduceToNat, ↓reduceIte, Nat.reduceLT, Nat.reduceEqDiff, Nat.reduceAdd, Nat.reduceMul, Nat.reduceSub, Nat.reduceBEq, Nat.reduceLeDiff, reduceCtorEq, Nat.reduceLT, ↓Br_true, ↓Br_false, bind, pure, sc129, sb129, hd, e1, i1, i2, i3, i4, e4]
            refine ⟨⟨by omega, by omega⟩, (k + 1, acc * 16 + (c.toNat - 87)), ⟨by dsimp only; omega, ?_, ?_⟩, by dsimp only; omega, by (try refine Or.inl ?_); simp [Cov, covE, covH, cb_dead, cb_lit, cb_rows, cb_cells, cd_lit, cd_rows, cd_cells, cd_dead, covRow, look, SV.known, SV.bd, bdL] <;> omega⟩
            · dsimp only; rw [Nat.pow_succ]; omega
            · dsimp only; rw [hs, s16, hs1]
          · have hs1 : sd c = none := by rw [sd, if_neg hdig, if_neg hlet]
            rw [s16, hs1] at hs
            have hn : num t = none := by unfold num; rw [hs]
            have hf : srF t = 0 := by unfold srF; rw [hs]; split <;> rfl
            rw [hn, hf]
            have i12 : (decide ((48 : Int) ≤ c.toNat) && decide ((c.toNat : Int) ≤ 57)) = false := by
              rw [Bool.eq_false_iff]; simp only [ne_eq, Bool.and_eq_true, decide_eq_true_eq]; omega
            by_cases j1 : 48 ≤ c.toNat
            · have i1 : decide ((48 : Int) ≤ c.toNat) = true := decide_eq_true (by omega)
              have i2 : decide ((c.toNat : Int) ≤ 57) = false := decide_eq_false (by omega)
              by_cases j3 : 97 ≤ c.toNat
              · have i3 : decide ((97 : Int) ≤ c.toNat) = true := decide_eq_true (by omega)
                have i4 : decide ((c.toNat : Int) ≤ 102) = false := decide_eq_false (by omega)
                simp (config := { maxSteps := 1000000 }) (disch := omega) only [go_sem, Int.reduceToNat, ↓reduceIte, Nat.reduceLT, Nat.reduceEqDiff, Nat.reduceAdd, Nat.reduceMul, Nat.reduceSub, Nat.reduceBEq, Nat.reduceLeDiff, reduceCtorEq, Nat.reduceLT, ↓Br_true, ↓Br_false, bind, pure, sc129, sb129, hd, e1, i1, i2, i3, i4]
                exact ⟨⟨by omega, by omega⟩, rfl⟩
              · have i3 : decide ((97 : Int) ≤ c.toNat) = false := decide_eq_false (by omega)
                simp (config := { maxSteps := 1000000 }) (disch := omega) only [go_sem, Int.reduceToNat, ↓reduceIte, Nat.reduceLT, Nat.reduceEqDiff, Nat.reduceAdd, Nat.reduceMul, Nat.reduceSub, Nat.reduceBEq, Nat.reduceLeDiff, reduceCtorEq, Nat.reduceLT, ↓Br_true, ↓Br_false, bind, pure, sc129, sb129, hd, e1, i1, i2, i3]
                exact ⟨⟨by omega, by omega⟩, rfl⟩
            · have i1 : decide ((48 : Int) ≤ c.toNat) = false := decide_eq_false (by omega)
              have i3 : decide ((97 : Int) ≤ c.toNat) = false := decide_eq_false (by omega)
              simp (config := { maxSteps := 1000000 }) (disch := omega) only [go_sem, Int.reduceToNat, ↓reduceIte, Nat.reduceLT, Nat.reduceEqDiff, Nat.reduceAdd, Nat.reduceMul, Nat.reduceSub, Nat.reduceBEq, Nat.reduceLeDiff, reduceCtorEq, Nat.reduceLT, ↓Br_true, ↓Br_false, bind, pure, sc129, sb129, hd, e1, i1, i3]
              exact ⟨⟨by omega, by omega⟩, rfl⟩
      · have hd : decide ((k : Int) < 8) = false := decide_eq_false (by omega)
        obtain rfl : k = 8 := by omega
        rw [List.drop_eq_nil_of_le (by omega), s16] at hs
        simp (config := { maxSteps := 1000000 }) (disch := omega) only [go_sem, Int.reduceToNat, ↓reduceIte, Nat.reduceLT, Nat.reduceEqDiff, Nat.reduceAdd, Nat.reduceMul, Nat.reduceSub, Nat.reduceBEq, Nat.reduceLeDiff, reduceCtorEq, Nat.reduceLT, ↓Br_true, ↓Br_false, bind, pure, sc129, sb129, hd]
        refine callX (.f (.flt .f32 acc)) rfl trivial (fun β w => frombits_run acc w) ?_
        simp (config := { maxSteps := 1000000 }) (disch := omega) only [go_sem, Int.reduceToNat, ↓reduceIte, Nat.reduceLT, Nat.reduceEqDiff, Nat.reduceAdd, Nat.reduceMul, Nat.reduceSub, Nat.reduceBEq, Nat.reduceLeDiff, reduceCtorEq, Nat.reduceLT, ↓Br_true, ↓Br_false, bind, pure, sc129, sb129, hd]
        (have cc := l01Bits_cv acc; (first | ((first | refine callR (by rfl) (by rfl) (by rfl) cc ?_ | refine callM (by rfl) (by rfl) (by rfl) cc ?_ | refine callMo (by rfl) (by rfl) (by rfl) cc ?_); clear cc; rintro _ _ ⟨rfl, rfl⟩) | (refine callE (by rfl) cc (by rfl) ?_; clear cc)))
        simp (config := { maxSteps := 1000000 }) (disch := omega) only [go_sem, Int.reduceToNat, ↓reduceIte, Nat.reduceLT, Nat.reduceEqDiff, Nat.reduceAdd, Nat.reduceMul, Nat.reduceSub, Nat.reduceBEq, Nat.reduceLeDiff, reduceCtorEq, Nat.reduceLT, ↓Br_true, ↓Br_false, bind, pure, sc129, sb129, hd]
        have hf : srF t = acc := by rw [srF, if_pos h8, hs]; rfl
        rw [hf]
        by_cases hb : tbits acc = acc
        · have hn : num t = some acc := by unfold num; rw [hs]; simp [h8, hb]
          simp [hn, hb]
        · have hn : num t = none := by unfold num; rw [hs]; simp [hb]
          have : ¬ ((tbits acc : Int) = (acc : Int)) := by omega
          simp [hn, hb, this]
  · have h8' : decide ((t.length : Int) = 8) = false := decide_eq_false (by omega)
    have hn := num_len h8
    have hf : srF t = 0 := by rw [srF, if_neg h8]
    rw [hn, hf]
    refine cv_of_run 1000 sc129 sb129 52 [.tmp 2, .tmp 3] tabOk (by kernel_rfl) Tryz.func129 rfl (by kernel_rfl) Tryz.ntmps129 rfl (by simp) rfl (by simp [bdL, SV.bd]) ?_
    simp (config := { maxSteps := 1000000 }) (disch := omega) only [go_sem, Int.reduceToNat, ↓reduceIte, Nat.reduceLT, Nat.reduceEqDiff, Nat.reduceAdd, Nat.reduceMul, Nat.reduceSub, Nat.reduceBEq, Nat.reduceLeDiff, reduceCtorEq, Nat.reduceLT, ↓Br_true, ↓Br_false, bind, pure, sc129, sb129, h8']
    rfl
end Go.Proofs.YtpcnpmhpelbndaaGreatDoor.Vx
