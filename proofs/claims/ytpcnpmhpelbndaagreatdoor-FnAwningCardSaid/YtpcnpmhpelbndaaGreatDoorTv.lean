/- An awning that is read. -/
import Derived.Test.YtpcnpmhpelbndaaGreatDoorTu
import Derived.Test.YtpcnpmhpelbndaaGreatDoorTd
namespace Go.Proofs.YtpcnpmhpelbndaaGreatDoor.Vx
open Go Go.RowKit Fl Hex16
set_option maxRecDepth 100000
set_option maxHeartbeats 4000000
set_option linter.unusedSimpArgs false
set_option linter.unusedVariables false
/-- The k-th piece. -/
def wd (t : List UInt8) (k : Nat) : List UInt8 := (sp 32 t).getD k []
def gd (t : List UInt8) (k : Nat) : Nat := (num (wd t k)).getD 0
def rdOk (t : List UInt8) : Bool := decide ((sp 32 t).length = 4) && (num (wd t 0)).isSome && (num (wd t 1)).isSome && (num (wd t 2)).isSome && (num (wd t 3)).isSome && vAwning (gd t 0) (gd t 1) (gd t 2) (gd t 3)
/-- What is read of a text. -/
def rdV (t : List UInt8) : SV := if rdOk t then .tup [tawnV (gd t 0) (gd t 1) (gd t 2) (gd t 3), .f (.int .i64 0)] else .tup [tawnV 0 0 0 0, .f (.int .i64 5)]
theorem frag_len (t : List UInt8) (a b : Nat) : (frag t a b).length ≤ t.length := by
  unfold frag; simp; omega
theorem sp_piece {c : UInt8} : ∀ {t p : List UInt8}, p ∈ sp c t → p.length ≤ t.length
  | [], p, h => by simp [sp] at h; simp [h]
  | b :: r, p, h => by
    simp only [sp] at h
    split at h
    · rcases List.mem_cons.1 h with rfl | h
      · simp
      · have := sp_piece h; simp; omega
    · have hne := sp_ne c r
      cases hq : sp c r with
      | nil => exact absurd hq hne
      | cons q l =>
        rw [hq, consH] at h
        have hm : ∀ x, x ∈ q :: l → x.length ≤ r.length := fun x hx => sp_piece (c := c) (by rw [hq]; exact hx)
        rcases List.mem_cons.1 h with rfl | h
        · have := hm q (by simp); simp; omega
        · have := hm p (by simp [h]); simp; omega
theorem wd_len (t : List UInt8) (k : Nat) : (wd t k).length ≤ t.length := by
  unfold wd
  by_cases h : k < (sp 32 t).length
  · rw [List.getD_eq_getElem?_getD, List.getElem?_eq_getElem h]
    exact sp_piece (List.getElem_mem h)
  · rw [List.getD_eq_getElem?_getD, List.getElem?_eq_none (by omega)]; simp
def gk (t : List UInt8) (s k : Nat) : Nat := if k < s then gd t k else 0
def rowK (t : List UInt8) (s : Nat) : List SV := [.f (.flt .f32 (gk t s 0)), .f (.flt .f32 (gk t s 1)), .f (.flt .f32 (gk t s 2)), .f (.flt .f32 (gk t s 3))]
theorem ReadNumber_no (t : List UInt8) (ht : t.length ≤ 1048576) (hn : num t = none) :
    CV Tryz.prog 69 [.f (.str (bs t))] [] (fun v h => v = .tup [.f (.flt .f32 0), .f (.int .i64 5)] ∧ h = []) := by
  have := ReadNumber_cv t ht
  rw [hn] at this; exact this
theorem ReadNumber_so (t : List UInt8) (ht : t.length ≤ 1048576) {u : Nat} (hn : num t = some u) :
    CV Tryz.prog 69 [.f (.str (bs t))] [] (fun v h => v = .tup [.f (.flt .f32 u), .f (.int .i64 0)] ∧ h = []) := by
  have := ReadNumber_cv t ht
  rw [hn] at this; exact this
theorem l01Read_no (t : List UInt8) (ht : t.length ≤ 1048576) (hn : num t = none) :
    CV Tryz.prog 129 [.f (.str (bs t))] [] (fun v h => v = .tup [.f (.flt .f32 (srF t)), .f (.bool false)] ∧ h = []) := by
  have := l01Read_cv t ht
  rw [hn] at this; exact this
theorem l01Read_so (t : List UInt8) (ht : t.length ≤ 1048576) {u : Nat} (hn : num t = some u) :
    CV Tryz.prog 129 [.f (.str (bs t))] [] (fun v h => v = .tup [.f (.flt .f32 u), .f (.bool true)] ∧ h = []) := by
  have := l01Read_cv t ht
  rw [hn, srF_num hn] at this; exact this
theorem ReadAwning_cv (t : List UInt8) (ht : t.length ≤ 1048576) :
    CV Tryz.prog 39 [.f (.str (bs t))] [] (fun v h => v = rdV t ∧ h = []) := by
  have cs := Split_cv t 32 ht
  have h44 : decide (((4 : Nat) : Int) = 4) = true := rfl
  have h44' : decide ((4 : Int) = 4) = true := rfl
  have d5 : decide ((5 : Int) = 0) = false := rfl
  have d0 : decide ((0 : Int) = 0) = true := rfl
  by_cases h4 : (sp 32 t).length = 4
  · rw [h4] at cs
    refine cv_of_run 1000 sc39 sb39 51 [.cell 2 67, .tmp 3] tabOk (by kernel_rfl) Tryz.func39 rfl (by kernel_rfl) Tryz.ntmps39 rfl (by simp) rfl (by simp [bdL, SV.bd]) ?_
    simp (config := { maxSteps := 1000000 }) (disch := omega) only [go_sem, Int.reduceToNat, ↓reduceIte, Nat.reduceLT, Nat.reduceEqDiff, Nat.reduceAdd, Nat.reduceMul, Nat.reduceSub, Nat.reduceBEq, Nat.reduceLeDiff, reduceCtorEq, Nat.reduceLT, ↓Br_true, ↓Br_false, bind, pure, sc39, sb39, h44, h44']
    (have cc := cs; (first | ((first | refine callR (by rfl) (by rfl) (by rfl) cc ?_ | refine callM (by rfl) (by rfl) (by rfl) cc ?_ | refine callMo (by rfl) (by rfl) (by rfl) cc ?_); clear cc; rintro _ _ ⟨rfl, rfl⟩) | (refine callE (by rfl) cc (by rfl) ?_; clear cc)))
    simp (config := { maxSteps := 1000000 }) (disch := omega) only [go_sem, Int.reduceToNat, ↓reduceIte, Nat.reduceLT, Nat.reduceEqDiff, Nat.reduceAdd, Nat.reduceMul, Nat.reduceSub, Nat.reduceBEq, Nat.reduceLeDiff, reduceCtorEq, Nat.reduceLT, ↓Br_true, ↓Br_false, bind, pure, sc39, sb39, h44]
    refine ⟨Nat, fun s => s ≤ 4 ∧ ∀ j, j < s → (num (wd t j)).isSome = true, fun s => 4 - s, fun s => [(2, .ptr 0 0 0), (3, .f (.int .i64 0)), (5, .ptr 2 0 0), (18, .slc 1 0 4 4), (19, .f (.int .i64 4)), (20, .f (.int .i64 s))], fun s => [.lit [.f (.flt .f32 0), .f (.flt .f32 0), .f (.flt .f32 0), .f (.flt .f32 0)] true, .rows 4 4 1 (strsR (sp 32 t)) true, .lit (rowK t s) true], 0, (by intro _; simp), ?_, (by (try refine Or.inl ?_); simp [Cov, covE, covH, cb_dead, cb_lit, cb_rows, cb_cells, cd_lit, cd_rows, cd_cells, cd_dead, covRow, look, SV.known, SV.bd, bdL, rowK, gk] <;> omega), ?_⟩
    · exact ⟨by omega, fun j hj => by omega⟩
    · rintro k ⟨hk, hall⟩
      have hk4 : k = 0 ∨ k = 1 ∨ k = 2 ∨ k = 3 ∨ k = 4 := by omega
      rcases hk4 with rfl | rfl | rfl | rfl | rfl
      · have hd : decide (((0 : Nat) : Int) < 4) = true := rfl
        have e1 : strsR (sp 32 t) 0 = [.str (bs (wd t 0))] := rfl
        cases hn : num (wd t 0) with
        | none =>
          have cr := ReadNumber_no (wd t 0) (Nat.le_trans (wd_len t 0) ht) hn
          have hb : rdOk t = false := by simp [rdOk, hn]
          simp (config := { maxSteps := 1000000 }) (disch := omega) only [go_sem, Int.reduceToNat, ↓reduceIte, Nat.reduceLT, Nat.reduceEqDiff, Nat.reduceAdd, Nat.reduceMul, Nat.reduceSub, Nat.reduceBEq, Nat.reduceLeDiff, reduceCtorEq, Nat.reduceLT, ↓Br_true, ↓Br_false, bind, pure, sc39, sb39, hd, e1, d5, d0, rowK, gk]
          repeat' (first | (with_reducible refine And.intro (by first | (unfold SOk; kernel_rfl) | (unfold SBOk; kernel_rfl) | (with_reducible assumption) | omega | assumption) ?_) | (with_reducible refine Br_intro (fun hc => ?_) (fun hc => ?_)) | ((have cc := cr; (first | ((first | refine callR (by rfl) (by rfl) (by rfl) cc ?_ | refine callM (by rfl) (by rfl) (by rfl) cc ?_ | refine callMo (by rfl) (by rfl) (by rfl) cc ?_); clear cc; rintro _ _ ⟨rfl, rfl⟩) | (refine callE (by rfl) cc (by rfl) ?_; clear cc))); simp (config := { maxSteps := 1000000 }) (disch := omega) only [go_sem, Int.reduceToNat, ↓reduceIte, Nat.reduceLT, Nat.reduceEqDiff, Nat.reduceAdd, Nat.reduceMul, Nat.reduceSub, Nat.reduceBEq, Nat.reduceLeDiff, reduceCtorEq, Nat.reduceLT, ↓Br_true, ↓Br_false, bind, pure, sc39, sb39, hd, e1, d5, d0, rowK, gk]) | ((with_reducible show WidN _ _ _ _ _ _ _ _); (first | refine widL (by decide) (by with_reducible assumption) ?_ | refine widL (by decide) (FWok_nn (by with_reducible assumption)) ?_ | refine widN (by decide) (fun c hc => ?_)); simp (config := { maxSteps := 1000000 }) (disch := omega) only [go_sem, Int.reduceToNat, ↓reduceIte, Nat.reduceLT, Nat.reduceEqDiff, Nat.reduceAdd, Nat.reduceMul, Nat.reduceSub, Nat.reduceBEq, Nat.reduceLeDiff, reduceCtorEq, Nat.reduceLT, ↓Br_true, ↓Br_false, bind, pure, sc39, sb39, hd, e1, d5, d0, rowK, gk]))
          all_goals simp [rdV, hb]
        | some u =>
          have cr := ReadNumber_so (wd t 0) (Nat.le_trans (wd_len t 0) ht) hn
          have hu : u = gd t 0 := by simp [gd, hn]
          subst hu
          simp (config := { maxSteps := 1000000 }) (disch := omega) only [go_sem, Int.reduceToNat, ↓reduceIte, Nat.reduceLT, Nat.reduceEqDiff, Nat.reduceAdd, Nat.reduceMul, Nat.reduceSub, Nat.reduceBEq, Nat.reduceLeDiff, reduceCtorEq, Nat.reduceLT, ↓Br_true, ↓Br_false, bind, pure, sc39, sb39, hd, e1, d5, d0, rowK, gk]
          repeat' (first | (with_reducible refine And.intro (by first | (unfold SOk; kernel_rfl) | (unfold SBOk; kernel_rfl) | (with_reducible assumption) | omega | assumption) ?_) | (with_reducible refine Br_intro (fun hc => ?_) (fun hc => ?_)) | ((have cc := cr; (first | ((first | refine callR (by rfl) (by rfl) (by rfl) cc ?_ | refine callM (by rfl) (by rfl) (by rfl) cc ?_ | refine callMo (by rfl) (by rfl) (by rfl) cc ?_); clear cc; rintro _ _ ⟨rfl, rfl⟩) | (refine callE (by rfl) cc (by rfl) ?_; clear cc))); simp (config := { maxSteps := 1000000 }) (disch := omega) only [go_sem, Int.reduceToNat, ↓reduceIte, Nat.reduceLT, Nat.reduceEqDiff, Nat.reduceAdd, Nat.reduceMul, Nat.reduceSub, Nat.reduceBEq, Nat.reduceLeDiff, reduceCtorEq, Nat.reduceLT, ↓Br_true, ↓Br_false, bind, pure, sc39, sb39, hd, e1, d5, d0, rowK, gk]) | ((with_reducible show WidN _ _ _ _ _ _ _ _); (first | refine widL (by decide) (by with_reducible assumption) ?_ | refine widL (by decide) (FWok_nn (by with_reducible assumption)) ?_ | refine widN (by decide) (fun c hc => ?_)); simp (config := { maxSteps := 1000000 }) (disch := omega) only [go_sem, Int.reduceToNat, ↓reduceIte, Nat.reduceLT, Nat.reduceEqDiff, Nat.reduceAdd, Nat.reduceMul, Nat.reduceSub, Nat.reduceBEq, Nat.reduceLeDiff, reduceCtorEq, Nat.reduceLT, ↓Br_true, ↓Br_false, bind, pure, sc39, sb39, hd, e1, d5, d0, rowK, gk]))
          refine ⟨1, ⟨by omega, fun j hj => ?_⟩, by omega, by (try refine Or.inl ?_); simp [Cov, covE, covH, cb_dead, cb_lit, cb_rows, cb_cells, cd_lit, cd_rows, cd_cells, cd_dead, covRow, look, SV.known, SV.bd, bdL] <;> omega⟩
          by_cases hj2 : j < 0
          · exact hall j hj2
          · obtain rfl : j = 0 := by omega
            simp [hn]
      · have hd : decide (((1 : Nat) : Int) < 4) = true := rfl
        have e1 : strsR (sp 32 t) 1 = [.str (bs (wd t 1))] := rfl
        cases hn : num (wd t 1) with
        | none =>
          have cr := ReadNumber_no (wd t 1) (Nat.le_trans (wd_len t 1) ht) hn
          have hb : rdOk t = false := by simp [rdOk, hn]
          simp (config := { maxSteps := 1000000 }) (disch := omega) only [go_sem, Int.reduceToNat, ↓reduceIte, Nat.reduceLT, Nat.reduceEqDiff, Nat.reduceAdd, Nat.reduceMul, Nat.reduceSub, Nat.reduceBEq, Nat.reduceLeDiff, reduceCtorEq, Nat.reduceLT, ↓Br_true, ↓Br_false, bind, pure, sc39, sb39, hd, e1, d5, d0, rowK, gk]
          repeat' (first | (with_reducible refine And.intro (by first | (unfold SOk; kernel_rfl) | (unfold SBOk; kernel_rfl) | (with_reducible assumption) | omega | assumption) ?_) | (with_reducible refine Br_intro (fun hc => ?_) (fun hc => ?_)) | ((have cc := cr; (first | ((first | refine callR (by rfl) (by rfl) (by rfl) cc ?_ | refine callM (by rfl) (by rfl) (by rfl) cc ?_ | refine callMo (by rfl) (by rfl) (by rfl) cc ?_); clear cc; rintro _ _ ⟨rfl, rfl⟩) | (refine callE (by rfl) cc (by rfl) ?_; clear cc))); simp (config := { maxSteps := 1000000 }) (disch := omega) only [go_sem, Int.reduceToNat, ↓reduceIte, Nat.reduceLT, Nat.reduceEqDiff, Nat.reduceAdd, Nat.reduceMul, Nat.reduceSub, Nat.reduceBEq, Nat.reduceLeDiff, reduceCtorEq, Nat.reduceLT, ↓Br_true, ↓Br_false, bind, pure, sc39, sb39, hd, e1, d5, d0, rowK, gk]) | ((with_reducible show WidN _ _ _ _ _ _ _ _); (first | refine widL (by decide) (by with_reducible assumption) ?_ | refine widL (by decide) (FWok_nn (by with_reducible assumption)) ?_ | refine widN (by decide) (fun c hc => ?_)); simp (config := { maxSteps := 1000000 }) (disch := omega) only [go_sem, Int.reduceToNat, ↓reduceIte, Nat.reduceLT, Nat.reduceEqDiff, Nat.reduceAdd, Nat.reduceMul, Nat.reduceSub, Nat.reduceBEq, Nat.reduceLeDiff, reduceCtorEq, Nat.reduceLT, ↓Br_true, ↓Br_false, bind, pure, sc39, sb39, hd, e1, d5, d0, rowK, gk]))
          all_goals simp [rdV, hb]
        | some u =>
          have cr := ReadNumber_so (wd t 1) (Nat.le_trans (wd_len t 1) ht) hn
          have hu : u = gd t 1 := by simp [gd, hn]
          subst hu
          simp (config := { maxSteps := 1000000 }) (disch := omega) only [go_sem, Int.reduceToNat, ↓reduceIte, Nat.reduceLT, Nat.reduceEqDiff, Nat.reduceAdd, Nat.reduceMul, Nat.reduceSub, Nat.reduceBEq, Nat.reduceLeDiff, reduceCtorEq, Nat.reduceLT, ↓Br_true, ↓Br_false, bind, pure, sc39, sb39, hd, e1, d5, d0, rowK, gk]
          repeat' (first | (with_reducible refine And.intro (by first | (unfold SOk; kernel_rfl) | (unfold SBOk; kernel_rfl) | (with_reducible assumption) | omega | assumption) ?_) | (with_reducible refine Br_intro (fun hc => ?_) (fun hc => ?_)) | ((have cc := cr; (first | ((first | refine callR (by rfl) (by rfl) (by rfl) cc ?_ | refine callM (by rfl) (by rfl) (by rfl) cc ?_ | refine callMo (by rfl) (by rfl) (by rfl) cc ?_); clear cc; rintro _ _ ⟨rfl, rfl⟩) | (refine callE (by rfl) cc (by rfl) ?_; clear cc))); simp (config := { maxSteps := 1000000 }) (disch := omega) only [go_sem, Int.reduceToNat, ↓reduceIte, Nat.reduceLT, Nat.reduceEqDiff, Nat.reduceAdd, Nat.reduceMul, Nat.reduceSub, Nat.reduceBEq, Nat.reduceLeDiff, reduceCtorEq, Nat.reduceLT, ↓Br_true, ↓Br_false, bind, pure, sc39, sb39, hd, e1, d5, d0, rowK, gk]) | ((with_reducible show WidN _ _ _ _ _ _ _ _); (first | refine widL (by decide) (by with_reducible assumption) ?_ | refine widL (by decide) (FWok_nn (by with_reducible assumption)) ?_ | refine widN (by decide) (fun c hc => ?_)); simp (config := { maxSteps := 1000000 }) (disch := omega) only [go_sem, Int.reduceToNat, ↓reduceIte, Nat.reduceLT, Nat.reduceEqDiff, Nat.reduceAdd, Nat.reduceMul, Nat.reduceSub, Nat.reduceBEq, Nat.reduceLeDiff, reduceCtorEq, Nat.reduceLT, ↓Br_true, ↓Br_false, bind, pure, sc39, sb39, hd, e1, d5, d0, rowK, gk]))
          refine ⟨2, ⟨by omega, fun j hj => ?_⟩, by omega, by (try refine Or.inl ?_); simp [Cov, covE, covH, cb_dead, cb_lit, cb_rows, cb_cells, cd_lit, cd_rows, cd_cells, cd_dead, covRow, look, SV.known, SV.bd, bdL] <;> omega⟩
          by_cases hj2 : j < 1
          · exact hall j hj2
          · obtain rfl : j = 1 := by omega
            simp [hn]
      · have hd : decide (((2 : Nat) : Int) < 4) = true := rfl
        have e1 : strsR (sp 32 t) 2 = [.str (bs (wd t 2))] := rfl
        cases hn : num (wd t 2) with
        | none =>
          have cr := ReadNumber_no (wd t 2) (Nat.le_trans (wd_len t 2) ht) hn
          have hb : rdOk t = false := by simp [rdOk, hn]
          simp (config := { maxSteps := 1000000 }) (disch := omega) only [go_sem, Int.reduceToNat, ↓reduceIte, Nat.reduceLT, Nat.reduceEqDiff, Nat.reduceAdd, Nat.reduceMul, Nat.reduceSub, Nat.reduceBEq, Nat.reduceLeDiff, reduceCtorEq, Nat.reduceLT, ↓Br_true, ↓Br_false, bind, pure, sc39, sb39, hd, e1, d5, d0, rowK, gk]
          repeat' (first | (with_reducible refine And.intro (by first | (unfold SOk; kernel_rfl) | (unfold SBOk; kernel_rfl) | (with_reducible assumption) | omega | assumption) ?_) | (with_reducible refine Br_intro (fun hc => ?_) (fun hc => ?_)) | ((have cc := cr; (first | ((first | refine callR (by rfl) (by rfl) (by rfl) cc ?_ | refine callM (by rfl) (by rfl) (by rfl) cc ?_ | refine callMo (by rfl) (by rfl) (by rfl) cc ?_); clear cc; rintro _ _ ⟨rfl, rfl⟩) | (refine callE (by rfl) cc (by rfl) ?_; clear cc))); simp (config := { maxSteps := 1000000 }) (disch := omega) only [go_sem, Int.reduceToNat, ↓reduceIte, Nat.reduceLT, Nat.reduceEqDiff, Nat.reduceAdd, Nat.reduceMul, Nat.reduceSub, Nat.reduceBEq, Nat.reduceLeDiff, reduceCtorEq, Nat.reduceLT, ↓Br_true, ↓Br_false, bind, pure, sc39, sb39, hd, e1, d5, d0, rowK, gk]) | ((with_reducible show WidN _ _ _ _ _ _ _ _); (first | refine widL (by decide) (by with_reducible assumption) ?_ | refine widL (by decide) (FWok_nn (by with_reducible assumption)) ?_ | refine widN (by decide) (fun c hc => ?_)); simp (config := { maxSteps := 1000000 }) (disch := omega) only [go_sem, Int.reduceToNat, ↓reduceIte, Nat.reduceLT, Nat.reduceEqDiff, Nat.reduceAdd, Nat.reduceMul, Nat.reduceSub, Nat.reduceBEq, Nat.reduceLeDiff, reduceCtorEq, Nat.reduceLT, ↓Br_true, ↓Br_false, bind, pure, sc39, sb39, hd, e1, d5, d0, rowK, gk]))
          all_goals simp [rdV, hb]
        | some u =>
          have cr := ReadNumber_so (wd t 2) (Nat.le_trans (wd_len t 2) ht) hn
          have hu : u = gd t 2 := by simp [gd, hn]
          subst hu
          simp (config := { maxSteps := 1000000 }) (disch := omega) only [go_sem, Int.reduceToNat, ↓reduceIte, Nat.reduceLT, Nat.reduceEqDiff, Nat.reduceAdd, Nat.reduceMul, Nat.reduceSub, Nat.reduceBEq, Nat.reduceLeDiff, reduceCtorEq, Nat.reduceLT, ↓Br_true, ↓Br_false, bind, pure, sc39, sb39, hd, e1, d5, d0, rowK, gk]
          repeat' (first | (with_reducible refine And.intro (by first | (unfold SOk; kernel_rfl) | (unfold SBOk; kernel_rfl) | (with_reducible assumption) | omega | assumption) ?_) | (with_reducible refine Br_intro (fun hc => ?_) (fun hc => ?_)) | ((have cc := cr; (first | ((first | refine callR (by rfl) (by rfl) (by rfl) cc ?_ | refine callM (by rfl) (by rfl) (by rfl) cc ?_ | refine callMo (by rfl) (by rfl) (by rfl) cc ?_); clear cc; rintro _ _ ⟨rfl, rfl⟩) | (refine callE (by rfl) cc (by rfl) ?_; clear cc))); simp (config := { maxSteps := 1000000 }) (disch := omega) only [go_sem, Int.reduceToNat, ↓reduceIte, Nat.reduceLT, Nat.reduceEqDiff, Nat.reduceAdd, Nat.reduceMul, Nat.reduceSub, Nat.reduceBEq, Nat.reduceLeDiff, reduceCtorEq, Nat.reduceLT, ↓Br_true, ↓Br_false, bind, pure, sc39, sb39, hd, e1, d5, d0, rowK, gk]) | ((with_reducible show WidN _ _ _ _ _ _ _ _); (first | refine widL (by decide) (by with_reducible assumption) ?_ | refine widL (by decide) (FWok_nn (by with_reducible assumption)) ?_ | refine widN (by decide) (fun c hc => ?_)); simp (config := { maxSteps := 1000000 }) (disch := omega) only [go_sem, Int.reduceToNat, ↓reduceIte, Nat.reduceLT, Nat.reduceEqDiff, Nat.reduceAdd, Nat.reduceMul, Nat.reduceSub, Nat.reduceBEq, Nat.reduceLeDiff, reduceCtorEq, Nat.reduceLT, ↓Br_true, ↓Br_false, bind, pure, sc39, sb39, hd, e1, d5, d0, rowK, gk]))
          refine ⟨3, ⟨by omega, fun j hj => ?_⟩, by omega, by (try refine Or.inl ?_); simp [Cov, covE, covH, cb_dead, cb_lit, cb_rows, cb_cells, cd_lit, cd_rows, cd_cells, cd_dead, covRow, look, SV.known, SV.bd, bdL] <;> omega⟩
          by_cases hj2 : j < 2
          · exact hall j hj2
          · obtain rfl : j = 2 := by omega
            simp [hn]
      · have hd : decide (((3 : Nat) : Int) < 4) = true := rfl
        have e1 : strsR (sp 32 t) 3 = [.str (bs (wd t 3))] := rfl
        cases hn : num (wd t 3) with
        | none =>
          have cr := ReadNumber_no (wd t 3) (Nat.le_trans (wd_len t 3) ht) hn
          have hb : rdOk t = false := by simp [rdOk, hn]
          simp (config := { maxSteps := 1000000 }) (disch := omega) only [go_sem, Int.reduceToNat, ↓reduceIte, Nat.reduceLT, Nat.reduceEqDiff, Nat.reduceAdd, Nat.reduceMul, Nat.reduceSub, Nat.reduceBEq, Nat.reduceLeDiff, reduceCtorEq, Nat.reduceLT, ↓Br_true, ↓Br_false, bind, pure, sc39, sb39, hd, e1, d5, d0, rowK, gk]
          repeat' (first | (with_reducible refine And.intro (by first | (unfold SOk; kernel_rfl) | (unfold SBOk; kernel_rfl) | (with_reducible assumption) | omega | assumption) ?_) | (with_reducible refine Br_intro (fun hc => ?_) (fun hc => ?_)) | ((have cc := cr; (first | ((first | refine callR (by rfl) (by rfl) (by rfl) cc ?_ | refine callM (by rfl) (by rfl) (by rfl) cc ?_ | refine callMo (by rfl) (by rfl) (by rfl) cc ?_); clear cc; rintro _ _ ⟨rfl, rfl⟩) | (refine callE (by rfl) cc (by rfl) ?_; clear cc))); simp (config := { maxSteps := 1000000 }) (disch := omega) only [go_sem, Int.reduceToNat, ↓reduceIte, Nat.reduceLT, Nat.reduceEqDiff, Nat.reduceAdd, Nat.reduceMul, Nat.reduceSub, Nat.reduceBEq, Nat.reduceLeDiff, reduceCtorEq, Nat.reduceLT, ↓Br_true, ↓Br_false, bind, pure, sc39, sb39, hd, e1, d5, d0, rowK, gk]) | ((with_reducible show WidN _ _ _ _ _ _ _ _); (first | refine widL (by decide) (by with_reducible assumption) ?_ | refine widL (by decide) (FWok_nn (by with_reducible assumption)) ?_ | refine widN (by decide) (fun c hc => ?_)); simp (config := { maxSteps := 1000000 }) (disch := omega) only [go_sem, Int.reduceToNat, ↓reduceIte, Nat.reduceLT, Nat.reduceEqDiff, Nat.reduceAdd, Nat.reduceMul, Nat.reduceSub, Nat.reduceBEq, Nat.reduceLeDiff, reduceCtorEq, Nat.reduceLT, ↓Br_true, ↓Br_false, bind, pure, sc39, sb39, hd, e1, d5, d0, rowK, gk]))
          all_goals simp [rdV, hb]
        | some u =>
          have cr := ReadNumber_so (wd t 3) (Nat.le_trans (wd_len t 3) ht) hn
          have hu : u = gd t 3 := by simp [gd, hn]
          subst hu
          simp (config := { maxSteps := 1000000 }) (disch := omega) only [go_sem, Int.reduceToNat, ↓reduceIte, Nat.reduceLT, Nat.reduceEqDiff, Nat.reduceAdd, Nat.reduceMul, Nat.reduceSub, Nat.reduceBEq, Nat.reduceLeDiff, reduceCtorEq, Nat.reduceLT, ↓Br_true, ↓Br_false, bind, pure, sc39, sb39, hd, e1, d5, d0, rowK, gk]
          repeat' (first | (with_reducible refine And.intro (by first | (unfold SOk; kernel_rfl) | (unfold SBOk; kernel_rfl) | (with_reducible assumption) | omega | assumption) ?_) | (with_reducible refine Br_intro (fun hc => ?_) (fun hc => ?_)) | ((have cc := cr; (first | ((first | refine callR (by rfl) (by rfl) (by rfl) cc ?_ | refine callM (by rfl) (by rfl) (by rfl) cc ?_ | refine callMo (by rfl) (by rfl) (by rfl) cc ?_); clear cc; rintro _ _ ⟨rfl, rfl⟩) | (refine callE (by rfl) cc (by rfl) ?_; clear cc))); simp (config := { maxSteps := 1000000 }) (disch := omega) only [go_sem, Int.reduceToNat, ↓reduceIte, Nat.reduceLT, Nat.reduceEqDiff, Nat.reduceAdd, Nat.reduceMul, Nat.reduceSub, Nat.reduceBEq, Nat.reduceLeDiff, reduceCtorEq, Nat.reduceLT, ↓Br_true, ↓Br_false, bind, pure, sc39, sb39, hd, e1, d5, d0, rowK, gk]) | ((with_reducible show WidN _ _ _ _ _ _ _ _); (first | refine widL (by decide) (by with_reducible assumption) ?_ | refine widL (by decide) (FWok_nn (by with_reducible assumption)) ?_ | refine widN (by decide) (fun c hc => ?_)); simp (config := { maxSteps := 1000000 }) (disch := omega) only [go_sem, Int.reduceToNat, ↓reduceIte, Nat.reduceLT, Nat.reduceEqDiff, Nat.reduceAdd, Nat.reduceMul, Nat.reduceSub, Nat.reduceBEq, Nat.reduceLeDiff, reduceCtorEq, Nat.reduceLT, ↓Br_true, ↓Br_false, bind, pure, sc39, sb39, hd, e1, d5, d0, rowK, gk]))
          refine ⟨4, ⟨by omega, fun j hj => ?_⟩, by omega, by (try refine Or.inl ?_); simp [Cov, covE, covH, cb_dead, cb_lit, cb_rows, cb_cells, cd_lit, cd_rows, cd_cells, cd_dead, covRow, look, SV.known, SV.bd, bdL] <;> omega⟩
          by_cases hj2 : j < 3
          · exact hall j hj2
          · obtain rfl : j = 3 := by omega
            simp [hn]
      · have hd : decide (((4 : Nat) : Int) < 4) = false := rfl
        have q0 := hall 0 (by omega)
        have q1 := hall 1 (by omega)
        have q2 := hall 2 (by omega)
        have q3 := hall 3 (by omega)
        have hb : rdOk t = vAwning (gd t 0) (gd t 1) (gd t 2) (gd t 3) := by simp [rdOk, h4, q0, q1, q2, q3]
        have cv := tValidAwning_cv (gd t 0) (gd t 1) (gd t 2) (gd t 3)
        cases hv : vAwning (gd t 0) (gd t 1) (gd t 2) (gd t 3)
        all_goals rw [hv] at hb cv
        · simp (config := { maxSteps := 1000000 }) (disch := omega) only [go_sem, Int.reduceToNat, ↓reduceIte, Nat.reduceLT, Nat.reduceEqDiff, Nat.reduceAdd, Nat.reduceMul, Nat.reduceSub, Nat.reduceBEq, Nat.reduceLeDiff, reduceCtorEq, Nat.reduceLT, ↓Br_true, ↓Br_false, bind, pure, sc39, sb39, hd, d5, d0, rowK, gk]
          repeat' (first | (with_reducible refine And.intro (by first | (unfold SOk; kernel_rfl) | (unfold SBOk; kernel_rfl) | (with_reducible assumption) | omega | assumption) ?_) | (with_reducible refine Br_intro (fun hc => ?_) (fun hc => ?_)) | ((have cc := cv; (first | ((first | refine callR (by rfl) (by rfl) (by rfl) cc ?_ | refine callM (by rfl) (by rfl) (by rfl) cc ?_ | refine callMo (by rfl) (by rfl) (by rfl) cc ?_); clear cc; rintro _ _ ⟨rfl, rfl⟩) | (refine callE (by rfl) cc (by rfl) ?_; clear cc))); simp (config := { maxSteps := 1000000 }) (disch := omega) only [go_sem, Int.reduceToNat, ↓reduceIte, Nat.reduceLT, Nat.reduceEqDiff, Nat.reduceAdd, Nat.reduceMul, Nat.reduceSub, Nat.reduceBEq, Nat.reduceLeDiff, reduceCtorEq, Nat.reduceLT, ↓Br_true, ↓Br_false, bind, pure, sc39, sb39, hd, d5, d0, rowK, gk]) | ((with_reducible show WidN _ _ _ _ _ _ _ _); (first | refine widL (by decide) (by with_reducible assumption) ?_ | refine widL (by decide) (FWok_nn (by with_reducible assumption)) ?_ | refine widN (by decide) (fun c hc => ?_)); simp (config := { maxSteps := 1000000 }) (disch := omega) only [go_sem, Int.reduceToNat, ↓reduceIte, Nat.reduceLT, Nat.reduceEqDiff, Nat.reduceAdd, Nat.reduceMul, Nat.reduceSub, Nat.reduceBEq, Nat.reduceLeDiff, reduceCtorEq, Nat.reduceLT, ↓Br_true, ↓Br_false, bind, pure, sc39, sb39, hd, d5, d0, rowK, gk]))
          all_goals simp [rdV, hb]
        · simp (config := { maxSteps := 1000000 }) (disch := omega) only [go_sem, Int.reduceToNat, ↓reduceIte, Nat.reduceLT, Nat.reduceEqDiff, Nat.reduceAdd, Nat.reduceMul, Nat.reduceSub, Nat.reduceBEq, Nat.reduceLeDiff, reduceCtorEq, Nat.reduceLT, ↓Br_true, ↓Br_false, bind, pure, sc39, sb39, hd, d5, d0, rowK, gk]
          repeat' (first | (with_reducible refine And.intro (by first | (unfold SOk; kernel_rfl) | (unfold SBOk; kernel_rfl) | (with_reducible assumption) | omega | assumption) ?_) | (with_reducible refine Br_intro (fun hc => ?_) (fun hc => ?_)) | ((have cc := cv; (first | ((first | refine callR (by rfl) (by rfl) (by rfl) cc ?_ | refine callM (by rfl) (by rfl) (by rfl) cc ?_ | refine callMo (by rfl) (by rfl) (by rfl) cc ?_); clear cc; rintro _ _ ⟨rfl, rfl⟩) | (refine callE (by rfl) cc (by rfl) ?_; clear cc))); simp (config := { maxSteps := 1000000 }) (disch := omega) only [go_sem, Int.reduceToNat, ↓reduceIte, Nat.reduceLT, Nat.reduceEqDiff, Nat.reduceAdd, Nat.reduceMul, Nat.reduceSub, Nat.reduceBEq, Nat.reduceLeDiff, reduceCtorEq, Nat.reduceLT, ↓Br_true, ↓Br_false, bind, pure, sc39, sb39, hd, d5, d0, rowK, gk]) | ((with_reducible show WidN _ _ _ _ _ _ _ _); (first | refine widL (by decide) (by with_reducible assumption) ?_ | refine widL (by decide) (FWok_nn (by with_reducible assumption)) ?_ | refine widN (by decide) (fun c hc => ?_)); simp (config := { maxSteps := 1000000 }) (disch := omega) only [go_sem, Int.reduceToNat, ↓reduceIte, Nat.reduceLT, Nat.reduceEqDiff, Nat.reduceAdd, Nat.reduceMul, Nat.reduceSub, Nat.reduceBEq, Nat.reduceLeDiff, reduceCtorEq, Nat.reduceLT, ↓Br_true, ↓Br_false, bind, pure, sc39, sb39, hd, d5, d0, rowK, gk]))
          all_goals simp [rdV, hb]
  · have h4' : decide (((sp 32 t).length : Int) = 4) = false := decide_eq_false (by omega)
    have hb : rdOk t = false := by simp [rdOk, h4]
    refine cv_of_run 1000 sc39 sb39 51 [.cell 2 67, .tmp 3] tabOk (by kernel_rfl) Tryz.func39 rfl (by kernel_rfl) Tryz.ntmps39 rfl (by simp) rfl (by simp [bdL, SV.bd]) ?_
    simp (config := { maxSteps := 1000000 }) (disch := omega) only [go_sem, Int.reduceToNat, ↓reduceIte, Nat.reduceLT, Nat.reduceEqDiff, Nat.reduceAdd, Nat.reduceMul, Nat.reduceSub, Nat.reduceBEq, Nat.reduceLeDiff, reduceCtorEq, Nat.reduceLT, ↓Br_true, ↓Br_false, bind, pure, sc39, sb39, h4']
    (have cc := cs; (first | ((first | refine callR (by rfl) (by rfl) (by rfl) cc ?_ | refine callM (by rfl) (by rfl) (by rfl) cc ?_ | refine callMo (by rfl) (by rfl) (by rfl) cc ?_); clear cc; rintro _ _ ⟨rfl, rfl⟩) | (refine callE (by rfl) cc (by rfl) ?_; clear cc)))
    simp (config := { maxSteps := 1000000 }) (disch := omega) only [go_sem, Int.reduceToNat, ↓reduceIte, Nat.reduceLT, Nat.reduceEqDiff, Nat.reduceAdd, Nat.reduceMul, Nat.reduceSub, Nat.reduceBEq, Nat.reduceLeDiff, reduceCtorEq, Nat.reduceLT, ↓Br_true, ↓Br_false, bind, pure, sc39, sb39, h4']
    all_goals simp [rdV, hb]
end Go.Proofs.YtpcnpmhpelbndaaGreatDoor.Vx
