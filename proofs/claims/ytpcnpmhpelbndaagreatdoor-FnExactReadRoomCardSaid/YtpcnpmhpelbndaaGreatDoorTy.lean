/- Rooms that are read: the reference's lines. -/
import Derived.Test.YtpcnpmhpelbndaaGreatDoorTx
namespace Go.Proofs.YtpcnpmhpelbndaaGreatDoor.Vx
open Go Go.RowKit Fl
set_option maxRecDepth 100000
set_option maxHeartbeats 4000000
set_option linter.unusedSimpArgs false
set_option linter.unusedVariables false
def ltr (k : Nat) : UInt8 := if k = 0 then 110 else if k = 1 then 101 else if k = 2 then 115 else 119
def wlK (c : UInt8) : Nat → Int
  | 0 => -1
  | k + 1 => if ltr k = c then k else wlK c k
def wlB (n : Nat) : Bool := let c := UInt8.ofNat n; (wlK c 4 == Lib.indexByte [110, 101, 115, 119] c) && (decide (wlK c 4 < 0) || (lett (wlK c 4) == c)) && decide (-1 ≤ wlK c 4) && decide (wlK c 4 ≤ 3)
theorem wlB_all : (List.range 256).all wlB = true := by decide +kernel
theorem wl_told (c : UInt8) : wlK c 4 = Lib.indexByte [110, 101, 115, 119] c ∧ (0 ≤ wlK c 4 → lett (wlK c 4) = c) ∧ -1 ≤ wlK c 4 ∧ wlK c 4 ≤ 3 := by
  have := List.all_eq_true.1 wlB_all c.toNat (by simpa using c.toNat_lt)
  have e : UInt8.ofNat c.toNat = c := by simp
  simp only [wlB, e, Bool.and_eq_true, Bool.or_eq_true, decide_eq_true_eq, beq_iff_eq] at this
  exact ⟨this.1.1.1, fun h => this.1.1.2.resolve_left (by omega), this.1.2, this.2⟩
theorem wl_lett {w : Int} (h : 0 ≤ w ∧ w ≤ 3) : wlK (lett w) 4 = w := by
  have : w = 0 ∨ w = 1 ∨ w = 2 ∨ w = 3 := by omega
  rcases this with rfl | rfl | rfl | rfl <;> decide
/-- The parts of a line. -/
def pA (s : List UInt8) : List UInt8 := (sp 47 s).getD 0 []
def pB (s : List UInt8) : List UInt8 := (sp 47 s).getD 1 []
def lnF (s : List UInt8) : Bool := decide ((sp 47 s).length = 2) && decide (2 ≤ (pA s).length)
def lnW (s : List UInt8) : Int := wlK ((pA s).getD 0 0) 4
def lnN (s : List UInt8) : Nat := (sN ((pA s).drop 1)).getD 0
def lnOk (s : List UInt8) : Bool := lnF s && ((sN ((pA s).drop 1)).isSome && ((num (pB s)).isSome && decide (0 ≤ lnW s)))
/-- The window of a line. -/
def lnU (s : List UInt8) : Win := if lnF s then ⟨lnW s, (min (lnN s) 100 : Nat), srF (pB s)⟩ else ⟨0, 0, 0⟩
theorem sp_pieceC {c : UInt8} : ∀ {t p : List UInt8}, p ∈ sp c t → p.length ≤ t.length
  | [], p, h => by simp [sp] at h; simp [h]
  | b :: r, p, h => by
    simp only [sp] at h
    split at h
    · rcases List.mem_cons.1 h with rfl | h
      · simp
      · have := sp_pieceC h; simp; omega
    · have hne := sp_ne c r
      cases hq : sp c r with
      | nil => exact absurd hq hne
      | cons q l =>
        rw [hq, consH] at h
        have hm : ∀ x, x ∈ q :: l → x.length ≤ r.length := fun x hx => sp_pieceC (c := c) (by rw [hq]; exact hx)
        rcases List.mem_cons.1 h with rfl | h
        · have := hm q (by simp); simp; omega
        · have := hm p (by simp [h]); simp; omega
theorem getD_len (c : UInt8) (t : List UInt8) (k : Nat) : ((sp c t).getD k []).length ≤ t.length := by
  by_cases h : k < (sp c t).length
  · rw [List.getD_eq_getElem?_getD, List.getElem?_eq_getElem h]
    exact sp_pieceC (List.getElem_mem h)
  · rw [List.getD_eq_getElem?_getD, List.getElem?_eq_none (by omega)]; simp
theorem rmin_cv (a : Nat) : CV Tryz.prog 130 [.f (.int .i64 a), .f (.int .i64 100)] [] (fun v h => v = .f (.int .i64 (min a 100 : Nat)) ∧ h = []) := by
  by_cases h : a < 100
  · have d : decide ((a : Int) < 100) = true := decide_eq_true (by omega)
    rw [Nat.min_eq_left (by omega)]
    refine cv_of_run 1000 sc130 sb130 10 [.tmp 4] tabOk (by kernel_rfl) Tryz.func130 rfl (by kernel_rfl) Tryz.ntmps130 rfl (by simp) rfl (by simp [bdL, SV.bd]) ?_
    simp (config := { maxSteps := 1000000 }) (disch := omega) only [go_sem, Int.reduceToNat, ↓reduceIte, Nat.reduceLT, Nat.reduceEqDiff, Nat.reduceAdd, Nat.reduceMul, Nat.reduceSub, Nat.reduceBEq, Nat.reduceLeDiff, reduceCtorEq, Nat.reduceLT, ↓Br_true, ↓Br_false, bind, pure, sc130, sb130, d]
  · have d : decide ((a : Int) < 100) = false := decide_eq_false (by omega)
    rw [Nat.min_eq_right (by omega)]
    refine cv_of_run 1000 sc130 sb130 10 [.tmp 4] tabOk (by kernel_rfl) Tryz.func130 rfl (by kernel_rfl) Tryz.ntmps130 rfl (by simp) rfl (by simp [bdL, SV.bd]) ?_
    simp (config := { maxSteps := 1000000 }) (disch := omega) only [go_sem, Int.reduceToNat, ↓reduceIte, Nat.reduceLT, Nat.reduceEqDiff, Nat.reduceAdd, Nat.reduceMul, Nat.reduceSub, Nat.reduceBEq, Nat.reduceLeDiff, reduceCtorEq, Nat.reduceLT, ↓Br_true, ↓Br_false, bind, pure, sc130, sb130, d]
    rfl
theorem l03Line_cv (t : List UInt8) (ht : t.length ≤ 1048576) :
    CV Tryz.prog 63 [.f (.str (bs t))] [] (fun v h => v = .tup [.agg [.f (.int .i8 (lnU t).w), .f (.int .i8 (lnU t).a), .f (.flt .f32 (lnU t).l)], .f (.bool (lnOk t))] ∧ h = []) := by
  have cs := l01Split_cv t 47 ht
  have lA := getD_len 47 t 0
  have lB := getD_len 47 t 1
  have h22 : decide (((2 : Nat) : Int) = 2) = true := rfl
  have eA0 : strsR (sp 47 t) 0 = [.str (bs (pA t))] := rfl
  have eB0 : strsR (sp 47 t) 1 = [.str (bs (pB t))] := rfl
  by_cases h2 : (sp 47 t).length = 2
  · rw [h2] at cs
    by_cases hA : 2 ≤ (pA t).length
    · have i1 : decide (((pA t).length : Int) < 2) = false := decide_eq_false (by omega)
      have hF : lnF t = true := by simp [lnF, h2, hA]
      have e1 : (pA t).toArray[0]?.getD 0 = (pA t).getD 0 0 := by simp [List.getD_eq_getElem?_getD]
      have cN := l01Number_cv ((pA t).drop 1) (by simp; unfold pA; omega)
      have cR := l01Read_cv (pB t) (by unfold pB; omega)
      have cM := rmin_cv (lnN t)
      have wt := wl_told ((pA t).getD 0 0)
      have eD := bs_ex (pA t) 1 (pA t).length
      rw [List.take_of_length_le (by simp)] at eD
      have hc := ((pA t).getD 0 0).toNat_lt
      obtain ⟨c, hcc⟩ : ∃ c, (pA t).getD 0 0 = c := ⟨_, rfl⟩
      have hU : lnU t = ⟨wlK c 4, (min (lnN t) 100 : Nat), srF (pB t)⟩ := by rw [lnU, if_pos hF, lnW, hcc]
      have hO : lnOk t = ((sN ((pA t).drop 1)).isSome && ((num (pB t)).isSome && decide (0 ≤ wlK c 4))) := by rw [lnOk, hF, lnW, hcc]; rfl
      rw [hcc] at e1 wt hc
      rw [hU, hO]
      have hNN : (sN ((pA t).drop 1)).getD 0 = lnN t := rfl
      rw [hNN] at cN
      generalize lnN t = N at *
      generalize hb1 : (sN ((pA t).drop 1)).isSome = b1 at *
      generalize hb2 : (num (pB t)).isSome = b2 at *
      generalize srF (pB t) = F at *
      have hmn : min N 100 ≤ 100 := Nat.min_le_right _ _
      refine cv_of_run 1000 sc63 sb63 67 [.cell 2 64, .tmp 3] tabOk (by kernel_rfl) Tryz.func63 rfl (by kernel_rfl) Tryz.ntmps63 rfl (by simp) rfl (by simp [bdL, SV.bd]) ?_
      simp (config := { maxSteps := 1000000 }) (disch := omega) only [go_sem, Int.reduceToNat, ↓reduceIte, Nat.reduceLT, Nat.reduceEqDiff, Nat.reduceAdd, Nat.reduceMul, Nat.reduceSub, Nat.reduceBEq, Nat.reduceLeDiff, reduceCtorEq, Nat.reduceLT, ↓Br_true, ↓Br_false, bind, pure, sc63, sb63, h22]
      have cc := cs; (first | refine callR (by rfl) (by rfl) (by rfl) cc ?_ | refine callM (by rfl) (by rfl) (by rfl) cc ?_ | refine callMo (by rfl) (by rfl) (by rfl) cc ?_ | refine callG (by rfl) (by rfl) (by rfl) cc ?_ | refine callW (by rfl) (by first | rfl | (simp [ofL, kpB, kpR, ofB, isOwnB, isDead, inL, hget]; done)) (by rfl) (by rfl) cc ?_); clear cc; rintro _ _ ⟨cap, g, hcap, hg, rfl, rfl⟩
      simp (config := { maxSteps := 1000000 }) (disch := omega) only [go_sem, Int.reduceToNat, ↓reduceIte, Nat.reduceLT, Nat.reduceEqDiff, Nat.reduceAdd, Nat.reduceMul, Nat.reduceSub, Nat.reduceBEq, Nat.reduceLeDiff, reduceCtorEq, Nat.reduceLT, ↓Br_true, ↓Br_false, bind, pure, sc63, sb63]
      have g0 : g 0 = [.str (bs (pA t))] := (hg 0 (by omega)).trans eA0
      have g1 : g 1 = [.str (bs (pB t))] := (hg 1 (by omega)).trans eB0
      simp (config := { maxSteps := 1000000 }) (disch := omega) only [go_sem, Int.reduceToNat, ↓reduceIte, Nat.reduceLT, Nat.reduceEqDiff, Nat.reduceAdd, Nat.reduceMul, Nat.reduceSub, Nat.reduceBEq, Nat.reduceLeDiff, reduceCtorEq, Nat.reduceLT, ↓Br_true, ↓Br_false, bind, pure, sc63, sb63, h22, g0, g1, i1]
      refine ⟨⟨by omega, by omega⟩, ?_⟩
      refine ⟨Nat, fun k => k ≤ 4, fun k => 4 - k, fun k => [(2, .ptr 0 0 0), (3, .f (.bool false)), (4, .slc 1 0 2 cap), (5, .f (.str (bs [110, 101, 115, 119]))), (6, .f (.int .i8 (wlK c k))), (7, .f (.int .i8 k))], fun _ => [.lit [.f (.int .i8 0), .f (.int .i8 0), .f (.flt .f32 0)] true, .rows 2 cap 1 g true], 0, (by intro _; simp), ?_, (by (try refine Or.inl ?_); simp [Cov, covE, covH, cb_dead, cb_lit, cb_rows, cb_cells, cd_lit, cd_rows, cd_cells, cd_dead, covRow, look, SV.known, SV.bd, bdL, hcap, wlK] <;> omega), ?_⟩
      · omega
      · intro k hk
        by_cases hlt : k < 4
        · have hd : decide ((k : Int) < 4) = true := decide_eq_true (by omega)
          have e5 : (#[110, 101, 115, 119] : Array UInt8)[k]?.getD 0 = ltr k := by
            have : ∀ k, k < 4 → (#[110, 101, 115, 119] : Array UInt8)[k]?.getD 0 = ltr k := by decide
            exact this k hlt
          by_cases hl : ltr k = c
          · have i6 : decide (((ltr k).toNat : Int) = (c.toNat : Int)) = true := decide_eq_true (u8_eq.2 hl)
            have ew : wlK c (k + 1) = k := by rw [wlK, if_pos hl]
            simp (config := { maxSteps := 1000000 }) (disch := omega) only [go_sem, Int.reduceToNat, ↓reduceIte, Nat.reduceLT, Nat.reduceEqDiff, Nat.reduceAdd, Nat.reduceMul, Nat.reduceSub, Nat.reduceBEq, Nat.reduceLeDiff, reduceCtorEq, Nat.reduceLT, ↓Br_true, ↓Br_false, bind, pure, sc63, sb63, hd, e5, g0, e1, i6]
            refine ⟨by first | (unfold SOk; kernel_rfl) | (unfold SBOk; kernel_rfl), ?_⟩
            repeat' (first | (with_reducible refine And.intro (by first | (unfold SOk; kernel_rfl) | (unfold SBOk; kernel_rfl) | (with_reducible assumption) | omega | assumption) ?_) | (with_reducible refine Br_intro (fun hc => ?_) (fun hc => ?_)) | ((with_reducible show WidN _ _ _ _ _ _ _ _); (first | refine widL (by decide) (by with_reducible assumption) ?_ | refine widL (by decide) (FWok_nn (by with_reducible assumption)) ?_ | refine widN (by decide) (fun c hc => ?_)); simp (config := { maxSteps := 1000000 }) (disch := omega) only [go_sem, Int.reduceToNat, ↓reduceIte, Nat.reduceLT, Nat.reduceEqDiff, Nat.reduceAdd, Nat.reduceMul, Nat.reduceSub, Nat.reduceBEq, Nat.reduceLeDiff, reduceCtorEq, Nat.reduceLT, ↓Br_true, ↓Br_false, bind, pure, sc63, sb63, hd, e5, g0, e1, i6]))
            all_goals exact ⟨k + 1, by omega, by omega, by (try refine Or.inl ?_); simp [Cov, covE, covH, cb_dead, cb_lit, cb_rows, cb_cells, cd_lit, cd_rows, cd_cells, cd_dead, covRow, look, SV.known, SV.bd, bdL, hcap, ew] <;> omega⟩
          · have i6 : decide (((ltr k).toNat : Int) = (c.toNat : Int)) = false := decide_eq_false fun h => hl (u8_eq.1 h)
            have ew : wlK c (k + 1) = wlK c k := by rw [wlK, if_neg hl]
            simp (config := { maxSteps := 1000000 }) (disch := omega) only [go_sem, Int.reduceToNat, ↓reduceIte, Nat.reduceLT, Nat.reduceEqDiff, Nat.reduceAdd, Nat.reduceMul, Nat.reduceSub, Nat.reduceBEq, Nat.reduceLeDiff, reduceCtorEq, Nat.reduceLT, ↓Br_true, ↓Br_false, bind, pure, sc63, sb63, hd, e5, g0, e1, i6]
            refine ⟨by first | (unfold SOk; kernel_rfl) | (unfold SBOk; kernel_rfl), ?_⟩
            repeat' (first | (with_reducible refine And.intro (by first | (unfold SOk; kernel_rfl) | (unfold SBOk; kernel_rfl) | (with_reducible assumption) | omega | assumption) ?_) | (with_reducible refine Br_intro (fun hc => ?_) (fun hc => ?_)) | ((with_reducible show WidN _ _ _ _ _ _ _ _); (first | refine widL (by decide) (by with_reducible assumption) ?_ | refine widL (by decide) (FWok_nn (by with_reducible assumption)) ?_ | refine widN (by decide) (fun c hc => ?_)); simp (config := { maxSteps := 1000000 }) (disch := omega) only [go_sem, Int.reduceToNat, ↓reduceIte, Nat.reduceLT, Nat.reduceEqDiff, Nat.reduceAdd, Nat.reduceMul, Nat.reduceSub, Nat.reduceBEq, Nat.reduceLeDiff, reduceCtorEq, Nat.reduceLT, ↓Br_true, ↓Br_false, bind, pure, sc63, sb63, hd, e5, g0, e1, i6]))
            all_goals exact ⟨k + 1, by omega, by omega, by (try refine Or.inl ?_); simp [Cov, covE, covH, cb_dead, cb_lit, cb_rows, cb_cells, cd_lit, cd_rows, cd_cells, cd_dead, covRow, look, SV.known, SV.bd, bdL, hcap, ew] <;> omega⟩
        · have hd : decide ((k : Int) < 4) = false := decide_eq_false (by omega)
          obtain rfl : k = 4 := by omega
          have q1 := wt.2.2.1
          have q2 := wt.2.2.2
          simp (config := { maxSteps := 1000000 }) (disch := omega) only [go_sem, Int.reduceToNat, ↓reduceIte, Nat.reduceLT, Nat.reduceEqDiff, Nat.reduceAdd, Nat.reduceMul, Nat.reduceSub, Nat.reduceBEq, Nat.reduceLeDiff, reduceCtorEq, Nat.reduceLT, ↓Br_true, ↓Br_false, bind, pure, sc63, sb63, hd, g0, g1, eD]
          repeat' (first | (with_reducible refine And.intro (by first | (unfold SOk; kernel_rfl) | (unfold SBOk; kernel_rfl) | (with_reducible assumption) | omega | assumption) ?_) | (with_reducible refine Br_intro (fun hc => ?_) (fun hc => ?_)) | ((have cc := cN; (first | ((first | refine callR (by rfl) (by rfl) (by rfl) cc ?_ | refine callM (by rfl) (by rfl) (by rfl) cc ?_ | refine callMo (by rfl) (by rfl) (by rfl) cc ?_); clear cc; rintro _ _ ⟨rfl, rfl⟩) | (refine callE (by rfl) cc (by rfl) ?_; clear cc))); simp (config := { maxSteps := 1000000 }) (disch := omega) only [go_sem, Int.reduceToNat, ↓reduceIte, Nat.reduceLT, Nat.reduceEqDiff, Nat.reduceAdd, Nat.reduceMul, Nat.reduceSub, Nat.reduceBEq, Nat.reduceLeDiff, reduceCtorEq, Nat.reduceLT, ↓Br_true, ↓Br_false, bind, pure, sc63, sb63, hd, g0, g1, eD]) | ((have cc := cR; (first | ((first | refine callR (by rfl) (by rfl) (by rfl) cc ?_ | refine callM (by rfl) (by rfl) (by rfl) cc ?_ | refine callMo (by rfl) (by rfl) (by rfl) cc ?_); clear cc; rintro _ _ ⟨rfl, rfl⟩) | (refine callE (by rfl) cc (by rfl) ?_; clear cc))); simp (config := { maxSteps := 1000000 }) (disch := omega) only [go_sem, Int.reduceToNat, ↓reduceIte, Nat.reduceLT, Nat.reduceEqDiff, Nat.reduceAdd, Nat.reduceMul, Nat.reduceSub, Nat.reduceBEq, Nat.reduceLeDiff, reduceCtorEq, Nat.reduceLT, ↓Br_true, ↓Br_false, bind, pure, sc63, sb63, hd, g0, g1, eD]) | ((have cc := cM; (first | ((first | refine callR (by rfl) (by rfl) (by rfl) cc ?_ | refine callM (by rfl) (by rfl) (by rfl) cc ?_ | refine callMo (by rfl) (by rfl) (by rfl) cc ?_); clear cc; rintro _ _ ⟨rfl, rfl⟩) | (refine callE (by rfl) cc (by rfl) ?_; clear cc))); simp (config := { maxSteps := 1000000 }) (disch := omega) only [go_sem, Int.reduceToNat, ↓reduceIte, Nat.reduceLT, Nat.reduceEqDiff, Nat.reduceAdd, Nat.reduceMul, Nat.reduceSub, Nat.reduceBEq, Nat.reduceLeDiff, reduceCtorEq, Nat.reduceLT, ↓Br_true, ↓Br_false, bind, pure, sc63, sb63, hd, g0, g1, eD]) | ((with_reducible show WidN _ _ _ _ _ _ _ _); (first | refine widL (by decide) (by with_reducible assumption) ?_ | refine widL (by decide) (FWok_nn (by with_reducible assumption)) ?_ | refine widN (by decide) (fun c hc => ?_)); simp (config := { maxSteps := 1000000 }) (disch := omega) only [go_sem, Int.reduceToNat, ↓reduceIte, Nat.reduceLT, Nat.reduceEqDiff, Nat.reduceAdd, Nat.reduceMul, Nat.reduceSub, Nat.reduceBEq, Nat.reduceLeDiff, reduceCtorEq, Nat.reduceLT, ↓Br_true, ↓Br_false, bind, pure, sc63, sb63, hd, g0, g1, eD]))
          all_goals simp_all
    · have i1 : decide (((pA t).length : Int) < 2) = true := decide_eq_true (by omega)
      have hF : lnF t = false := by simp [lnF, hA]
      have hU : lnU t = ⟨0, 0, 0⟩ := by rw [lnU, hF]; rfl
      have hO : lnOk t = false := by rw [lnOk, hF]; rfl
      rw [hU, hO]
      refine cv_of_run 1000 sc63 sb63 67 [.cell 2 64, .tmp 3] tabOk (by kernel_rfl) Tryz.func63 rfl (by kernel_rfl) Tryz.ntmps63 rfl (by simp) rfl (by simp [bdL, SV.bd]) ?_
      simp (config := { maxSteps := 1000000 }) (disch := omega) only [go_sem, Int.reduceToNat, ↓reduceIte, Nat.reduceLT, Nat.reduceEqDiff, Nat.reduceAdd, Nat.reduceMul, Nat.reduceSub, Nat.reduceBEq, Nat.reduceLeDiff, reduceCtorEq, Nat.reduceLT, ↓Br_true, ↓Br_false, bind, pure, sc63, sb63, h22]
      have cc := cs; (first | refine callR (by rfl) (by rfl) (by rfl) cc ?_ | refine callM (by rfl) (by rfl) (by rfl) cc ?_ | refine callMo (by rfl) (by rfl) (by rfl) cc ?_ | refine callG (by rfl) (by rfl) (by rfl) cc ?_ | refine callW (by rfl) (by first | rfl | (simp [ofL, kpB, kpR, ofB, isOwnB, isDead, inL, hget]; done)) (by rfl) (by rfl) cc ?_); clear cc; rintro _ _ ⟨cap, g, hcap, hg, rfl, rfl⟩
      simp (config := { maxSteps := 1000000 }) (disch := omega) only [go_sem, Int.reduceToNat, ↓reduceIte, Nat.reduceLT, Nat.reduceEqDiff, Nat.reduceAdd, Nat.reduceMul, Nat.reduceSub, Nat.reduceBEq, Nat.reduceLeDiff, reduceCtorEq, Nat.reduceLT, ↓Br_true, ↓Br_false, bind, pure, sc63, sb63]
      have g0 : g 0 = [.str (bs (pA t))] := (hg 0 (by omega)).trans eA0
      simp (config := { maxSteps := 1000000 }) (disch := omega) only [go_sem, Int.reduceToNat, ↓reduceIte, Nat.reduceLT, Nat.reduceEqDiff, Nat.reduceAdd, Nat.reduceMul, Nat.reduceSub, Nat.reduceBEq, Nat.reduceLeDiff, reduceCtorEq, Nat.reduceLT, ↓Br_true, ↓Br_false, bind, pure, sc63, sb63, h22, g0, i1]
      exact ⟨by omega, by omega⟩
  · have i2 : decide (((sp 47 t).length : Int) = 2) = false := decide_eq_false (by omega)
    have hF : lnF t = false := by simp [lnF, h2]
    have hU : lnU t = ⟨0, 0, 0⟩ := by rw [lnU, hF]; rfl
    have hO : lnOk t = false := by rw [lnOk, hF]; rfl
    rw [hU, hO]
    refine cv_of_run 1000 sc63 sb63 67 [.cell 2 64, .tmp 3] tabOk (by kernel_rfl) Tryz.func63 rfl (by kernel_rfl) Tryz.ntmps63 rfl (by simp) rfl (by simp [bdL, SV.bd]) ?_
    simp (config := { maxSteps := 1000000 }) (disch := omega) only [go_sem, Int.reduceToNat, ↓reduceIte, Nat.reduceLT, Nat.reduceEqDiff, Nat.reduceAdd, Nat.reduceMul, Nat.reduceSub, Nat.reduceBEq, Nat.reduceLeDiff, reduceCtorEq, Nat.reduceLT, ↓Br_true, ↓Br_false, bind, pure, sc63, sb63, i2]
    have cc := cs; (first | refine callR (by rfl) (by rfl) (by rfl) cc ?_ | refine callM (by rfl) (by rfl) (by rfl) cc ?_ | refine callMo (by rfl) (by rfl) (by rfl) cc ?_ | refine callG (by rfl) (by rfl) (by rfl) cc ?_ | refine callW (by rfl) (by first | rfl | (simp [ofL, kpB, kpR, ofB, isOwnB, isDead, inL, hget]; done)) (by rfl) (by rfl) cc ?_); clear cc; rintro _ _ ⟨cap, g, hcap, hg, rfl, rfl⟩
    simp (config := { maxSteps := 1000000 }) (disch := omega) only [go_sem, Int.reduceToNat, ↓reduceIte, Nat.reduceLT, Nat.reduceEqDiff, Nat.reduceAdd, Nat.reduceMul, Nat.reduceSub, Nat.reduceBEq, Nat.reduceLeDiff, reduceCtorEq, Nat.reduceLT, ↓Br_true, ↓Br_false, bind, pure, sc63, sb63]
    simp (config := { maxSteps := 1000000 }) (disch := omega) only [go_sem, Int.reduceToNat, ↓reduceIte, Nat.reduceLT, Nat.reduceEqDiff, Nat.reduceAdd, Nat.reduceMul, Nat.reduceSub, Nat.reduceBEq, Nat.reduceLeDiff, reduceCtorEq, Nat.reduceLT, ↓Br_true, ↓Br_false, bind, pure, sc63, sb63, i2]
end Go.Proofs.YtpcnpmhpelbndaaGreatDoor.Vx
