/- Rooms that are read: the reference's room. -/
import Derived.Test.YtpcnpmhpelbndaaGreatDoorTz
namespace Go.Proofs.YtpcnpmhpelbndaaGreatDoor.Vx
open Go Go.RowKit Fl
set_option maxRecDepth 100000
set_option maxHeartbeats 8000000
set_option linter.unusedSimpArgs false
set_option linter.unusedVariables false
/-- The lines of a text. -/
def lnA (t : List UInt8) (k : Nat) : List UInt8 := (sp 10 t).getD k []
def cnt (t : List UInt8) : Nat := (sp 10 t).length
def hpP (t : List UInt8) : List (List UInt8) := sp 120 (lnA t 0)
def hpA (t : List UInt8) : List UInt8 := (hpP t).getD 0 []
def hpB (t : List UInt8) : List UInt8 := (hpP t).getD 1 []
def sH (t : List UInt8) : Bool := (lnA t (cnt t - 1) == []) && decide (1 ≤ cnt t - 1) && decide (cnt t - 1 ≤ 13) && decide ((hpP t).length = 2)
def sS (t : List UInt8) : Bool := (sN (hpA t)).isSome && (sN (hpB t)).isSome && decide ((sN (hpA t)).getD 0 ≤ 10) && decide ((sN (hpB t)).getD 0 ≤ 10)
def rS (t : List UInt8) : Rom := ⟨((sN (hpA t)).getD 0 : Nat), ((sN (hpB t)).getD 0 : Nat)⟩
def uS (t : List UInt8) (k : Nat) : Win := lnU (lnA t (k + 1))
def oS (t : List UInt8) (n : Nat) : Bool := (List.range n).all fun k => lnOk (lnA t (k + 1))
def specOk (t : List UInt8) : Bool := sH t && sS t && oS t (cnt t - 2) && vRoom (rS t) (uS t) (cnt t - 2)
theorem oS_succ (t : List UInt8) (n : Nat) : oS t (n + 1) = (oS t n && lnOk (lnA t (n + 1))) := by simp [oS, List.range_succ, List.all_append]
theorem oS_no {t : List UInt8} {n k : Nat} (hk : k < n) (h : lnOk (lnA t (k + 1)) = false) : oS t n = false := List.all_eq_false.2 ⟨k, by simpa using hk, by simp [h]⟩
theorem cnt_pos (t : List UInt8) : 1 ≤ cnt t := List.length_pos_iff.2 (sp_ne 10 t)
theorem lnA_len (t : List UInt8) (k : Nat) : (lnA t k).length ≤ t.length := getD_len 10 t k
theorem lnU_sm (t : List UInt8) : (lnU t).sm := by
  unfold lnU
  split
  · have := wl_told ((pA t).getD 0 0)
    have h2 := Nat.min_le_right (lnN t) 100
    exact ⟨⟨by have := this.2.2.1; show -128 ≤ lnW t; unfold lnW; omega, by have := this.2.2.2; show lnW t ≤ 127; unfold lnW; omega⟩, by show -128 ≤ ((min (lnN t) 100 : Nat) : Int); omega, by show ((min (lnN t) 100 : Nat) : Int) ≤ 127; omega⟩
  · exact ⟨⟨by decide, by decide⟩, by decide, by decide⟩
abbrev rmB (wi hi : Int) (m : Nat) : Option (Nat × (Nat → List FV)) → Blk
  | none => .lit [.f (.int .i8 wi), .f (.int .i8 hi), .f .nils] true
  | some s => .lit [.f (.int .i8 wi), .f (.int .i8 hi), .slc 4 0 m s.1] true
abbrev rmE (m : Nat) : Option (Nat × (Nat → List FV)) → List Blk
  | none => []
  | some s => [.rows m s.1 3 s.2 true]
def rmI (us : Nat → Win) (m : Nat) : Option (Nat × (Nat → List FV)) → Prop
  | none => m = 0
  | some s => 1 ≤ m ∧ m ≤ s.1 ∧ ∀ i, i < m → s.2 i = (us i).fv
/-- What is answered: a room of so many windows. -/
def RoomRes (r : Rom) (us : Nat → Win) (n : Nat) (v : SV) (h : List Blk) : Prop :=
  (n = 0 ∧ v = .tup [.agg [.f (.int .i8 r.wi), .f (.int .i8 r.hi), .f .nils], .f (.int .i64 0)] ∧ h = []) ∨
  ∃ cap g, 1 ≤ n ∧ n ≤ cap ∧ (∀ i, i < n → g i = (us i).fv) ∧ v = .tup [.agg [.f (.int .i8 r.wi), .f (.int .i8 r.hi), .slc 0 0 n cap], .f (.int .i64 0)] ∧ h = [.rows n cap 3 g true]
abbrev badV : SV := .tup [.agg [.f (.int .i8 0), .f (.int .i8 0), .f .nils], .f (.int .i64 5)]
def ReadRes (ok : Bool) (r : Rom) (us : Nat → Win) (n : Nat) (v : SV) (h : List Blk) : Prop := if ok then RoomRes r us n v h else v = badV ∧ h = []
theorem romPush {us : Nat → Win} {m : Nat} {g : Nat → List FV} (h : ∀ i, i < m → g i = (us i).fv) (u : Win) (hu : u = us m) : ∀ i, i < m + 1 → catR g m (shR (nthR [ u.fv ]) 0) i = (us i).fv := fun i hi => by
  simp only [catR, shR]
  split
  · exact h i (by assumption)
  · obtain rfl : i = m := by omega
    rw [hu]; simp [nthR]
theorem sReadRoom_cv (t : List UInt8) (ht : t.length ≤ 1048576) :
    CV Tryz.prog 6 [.f (.str (bs t))] [] (fun v h => ReadRes (specOk t) (rS t) (uS t) (cnt t - 2) v h) := by
  have cs := l01Split_cv t 10 ht
  have cz := l01Split_cv (lnA t 0) 120 (Nat.le_trans (lnA_len t 0) ht)
  have cp := cnt_pos t
  have la : ∀ k, strsR (sp 10 t) k = [.str (bs (lnA t k))] := fun k => rfl
  have za0 : strsR (sp 120 (lnA t 0)) 0 = [.str (bs (hpA t))] := rfl
  have zb0 : strsR (sp 120 (lnA t 0)) 1 = [.str (bs (hpB t))] := rfl
  change CV _ _ _ _ (fun v h => ∃ cap g, cnt t ≤ cap ∧ (∀ k, k < cnt t → g k = strsR (sp 10 t) k) ∧ v = .slc 0 0 (cnt t) cap ∧ h = [.rows (cnt t) cap 1 g true]) at cs
  change CV _ _ _ _ (fun v h => ∃ cap g, (hpP t).length ≤ cap ∧ (∀ k, k < (hpP t).length → g k = strsR (sp 120 (lnA t 0)) k) ∧ v = .slc 0 0 (hpP t).length cap ∧ h = [.rows (hpP t).length cap 1 g true]) at cz
  obtain ⟨last, hl⟩ : ∃ l, cnt t = l + 1 := ⟨cnt t - 1, by omega⟩
  have hlb : last ≤ 1048576 := by
    have := sp_len 10 t
    unfold cnt at hl
    omega
  obtain ⟨q, hq⟩ : ∃ q, (hpP t).length = q := ⟨_, rfl⟩
  have hq1 : 1 ≤ q := by rw [← hq]; exact List.length_pos_iff.2 (sp_ne 120 _)
  rw [hl] at cs
  rw [hq] at cz
  have el : ((last + 1 : Nat) : Int) - 1 = (last : Int) := by omega
  have eH : sH t = ((lnA t last == []) && decide (1 ≤ last) && decide (last ≤ 13) && decide (q = 2)) := by unfold sH; rw [hl, hq]; rfl
  have eE := strEq_bs (lnA t last) []
  refine cv_of_run 1000 sc6 sb6 103 [.cell 2 25, .tmp 3] tabOk (by kernel_rfl) Tryz.func6 rfl (by kernel_rfl) Tryz.ntmps6 rfl (by simp) rfl (by simp [bdL, SV.bd]) ?_
  simp (config := { maxSteps := 1000000 }) (disch := omega) only [go_sem, Int.reduceToNat, ↓reduceIte, Nat.reduceLT, Nat.reduceEqDiff, Nat.reduceAdd, Nat.reduceMul, Nat.reduceSub, Nat.reduceBEq, Nat.reduceLeDiff, reduceCtorEq, Nat.reduceLT, ↓Br_true, ↓Br_false, bind, pure, sc6, sb6, el]
  have cc := cs; (first | refine callR (by rfl) (by rfl) (by rfl) cc ?_ | refine callM (by rfl) (by rfl) (by rfl) cc ?_ | refine callMo (by rfl) (by rfl) (by rfl) cc ?_ | refine callG (by rfl) (by rfl) (by rfl) cc ?_ | refine callW (by rfl) (by first | rfl | (simp [ofL, kpB, kpR, ofB, isOwnB, isDead, inL, hget]; done)) (by rfl) (by rfl) cc ?_); clear cc; rintro _ _ ⟨cap, g, hcap, hg, rfl, rfl⟩
  simp (config := { maxSteps := 1000000 }) (disch := omega) only [go_sem, Int.reduceToNat, ↓reduceIte, Nat.reduceLT, Nat.reduceEqDiff, Nat.reduceAdd, Nat.reduceMul, Nat.reduceSub, Nat.reduceBEq, Nat.reduceLeDiff, reduceCtorEq, Nat.reduceLT, ↓Br_true, ↓Br_false, bind, pure, sc6, sb6]
  have g0 : g 0 = [.str (bs (lnA t 0))] := (hg 0 (by omega)).trans (la 0)
  have gl : g last = [.str (bs (lnA t last))] := (hg last (by omega)).trans (la last)
  simp (config := { maxSteps := 1000000 }) (disch := omega) only [go_sem, Int.reduceToNat, ↓reduceIte, Nat.reduceLT, Nat.reduceEqDiff, Nat.reduceAdd, Nat.reduceMul, Nat.reduceSub, Nat.reduceBEq, Nat.reduceLeDiff, reduceCtorEq, Nat.reduceLT, ↓Br_true, ↓Br_false, bind, pure, sc6, sb6, el, g0]
  repeat (with_reducible refine And.intro (by first | omega | assumption | (unfold SOk; kernel_rfl) | (unfold SBOk; kernel_rfl)) ?_)
  have cc := cz; (first | refine callR (by rfl) (by rfl) (by rfl) cc ?_ | refine callM (by rfl) (by rfl) (by rfl) cc ?_ | refine callMo (by rfl) (by rfl) (by rfl) cc ?_ | refine callG (by rfl) (by rfl) (by rfl) cc ?_ | refine callW (by rfl) (by first | rfl | (simp [ofL, kpB, kpR, ofB, isOwnB, isDead, inL, hget]; done)) (by rfl) (by rfl) cc ?_); clear cc; rintro _ _ ⟨cap2, g2, hcap2, hg2, rfl, rfl⟩
  simp (config := { maxSteps := 1000000 }) (disch := omega) only [go_sem, Int.reduceToNat, ↓reduceIte, Nat.reduceLT, Nat.reduceEqDiff, Nat.reduceAdd, Nat.reduceMul, Nat.reduceSub, Nat.reduceBEq, Nat.reduceLeDiff, reduceCtorEq, Nat.reduceLT, ↓Br_true, ↓Br_false, bind, pure, sc6, sb6]
  cases h1 : (lnA t last == [])
  · rw [h1] at eE
    have hb : specOk t = false := by simp [specOk, eH, h1]
    rw [hb]
    simp (config := { maxSteps := 1000000 }) (disch := omega) only [go_sem, Int.reduceToNat, ↓reduceIte, Nat.reduceLT, Nat.reduceEqDiff, Nat.reduceAdd, Nat.reduceMul, Nat.reduceSub, Nat.reduceBEq, Nat.reduceLeDiff, reduceCtorEq, Nat.reduceLT, ↓Br_true, ↓Br_false, bind, pure, sc6, sb6, el, gl, eE]
    exact ⟨⟨by omega, by omega⟩, rfl, rfl⟩
  · rw [h1] at eE
    by_cases h2 : 1 ≤ last
    · by_cases h3 : last ≤ 13
      · have i2 : decide ((last : Int) < 1) = false := decide_eq_false (by omega)
        have i3 : decide ((13 : Int) < last) = false := decide_eq_false (by omega)
        by_cases h4 : q = 2
        · subst h4
          have i4 : decide (((2 : Nat) : Int) = 2) = true := rfl
          have z0 : g2 0 = [.str (bs (hpA t))] := (hg2 0 (by omega)).trans za0
          have z1 : g2 1 = [.str (bs (hpB t))] := (hg2 1 (by omega)).trans zb0
          have hH : sH t = true := by rw [eH, h1]; simp [h2, h3]
          have lz : (lnA t 0).length ≤ 1048576 := Nat.le_trans (lnA_len t 0) ht
          have cA := l01Number_cv (hpA t) (Nat.le_trans (getD_len 120 (lnA t 0) 0) lz)
          have cB := l01Number_cv (hpB t) (Nat.le_trans (getD_len 120 (lnA t 0) 1) lz)
          obtain ⟨a, ha⟩ : ∃ a, (sN (hpA t)).getD 0 = a := ⟨_, rfl⟩
          obtain ⟨b, hb⟩ : ∃ b, (sN (hpB t)).getD 0 = b := ⟨_, rfl⟩
          have eS : sS t = ((sN (hpA t)).isSome && (sN (hpB t)).isSome && decide (a ≤ 10) && decide (b ≤ 10)) := by unfold sS; rw [ha, hb]
          have eR : rS t = ⟨(a : Int), (b : Int)⟩ := by unfold rS; rw [ha, hb]
          rw [ha] at cA
          rw [hb] at cB
          obtain ⟨b1, hb1⟩ : ∃ b1, (sN (hpA t)).isSome = b1 := ⟨_, rfl⟩
          obtain ⟨b2, hb2⟩ : ∃ b2, (sN (hpB t)).isSome = b2 := ⟨_, rfl⟩
          rw [hb1] at cA eS
          rw [hb2] at cB eS
          simp (config := { maxSteps := 1000000 }) (disch := omega) only [go_sem, Int.reduceToNat, ↓reduceIte, Nat.reduceLT, Nat.reduceEqDiff, Nat.reduceAdd, Nat.reduceMul, Nat.reduceSub, Nat.reduceBEq, Nat.reduceLeDiff, reduceCtorEq, Nat.reduceLT, ↓Br_true, ↓Br_false, bind, pure, sc6, sb6, el, gl, eE, i2, i3, i4, z0, z1]
          refine ⟨⟨by omega, by omega⟩, ⟨by omega, by omega⟩, ?_⟩
          (have cc := cA; (first | ((first | refine callR (by rfl) (by rfl) (by rfl) cc ?_ | refine callM (by rfl) (by rfl) (by rfl) cc ?_ | refine callMo (by rfl) (by rfl) (by rfl) cc ?_); clear cc; rintro _ _ ⟨rfl, rfl⟩) | (refine callE (by rfl) cc (by rfl) ?_; clear cc)))
          simp (config := { maxSteps := 1000000 }) (disch := omega) only [go_sem, Int.reduceToNat, ↓reduceIte, Nat.reduceLT, Nat.reduceEqDiff, Nat.reduceAdd, Nat.reduceMul, Nat.reduceSub, Nat.reduceBEq, Nat.reduceLeDiff, reduceCtorEq, Nat.reduceLT, ↓Br_true, ↓Br_false, bind, pure, sc6, sb6, z0, z1]
          repeat (with_reducible refine And.intro (by first | omega | assumption | (unfold SOk; kernel_rfl) | (unfold SBOk; kernel_rfl)) ?_)
          have no : sS t = false → ReadRes (specOk t) (rS t) (uS t) (cnt t - 2) badV [] := fun h => by
            have : specOk t = false := by simp [specOk, h]
            rw [this]; exact ⟨rfl, rfl⟩
          cases b1
          · have hN := no (by rw [eS]; rfl)
            (have cc := cB; (first | ((first | refine callR (by rfl) (by rfl) (by rfl) cc ?_ | refine callM (by rfl) (by rfl) (by rfl) cc ?_ | refine callMo (by rfl) (by rfl) (by rfl) cc ?_); clear cc; rintro _ _ ⟨rfl, rfl⟩) | (refine callE (by rfl) cc (by rfl) ?_; clear cc)))
            simp (config := { maxSteps := 1000000 }) (disch := omega) only [go_sem, Int.reduceToNat, ↓reduceIte, Nat.reduceLT, Nat.reduceEqDiff, Nat.reduceAdd, Nat.reduceMul, Nat.reduceSub, Nat.reduceBEq, Nat.reduceLeDiff, reduceCtorEq, Nat.reduceLT, ↓Br_true, ↓Br_false, bind, pure, sc6, sb6]
            exact hN
          · cases b2
            · have hN := no (by rw [eS]; rfl)
              (have cc := cB; (first | ((first | refine callR (by rfl) (by rfl) (by rfl) cc ?_ | refine callM (by rfl) (by rfl) (by rfl) cc ?_ | refine callMo (by rfl) (by rfl) (by rfl) cc ?_); clear cc; rintro _ _ ⟨rfl, rfl⟩) | (refine callE (by rfl) cc (by rfl) ?_; clear cc)))
              simp (config := { maxSteps := 1000000 }) (disch := omega) only [go_sem, Int.reduceToNat, ↓reduceIte, Nat.reduceLT, Nat.reduceEqDiff, Nat.reduceAdd, Nat.reduceMul, Nat.reduceSub, Nat.reduceBEq, Nat.reduceLeDiff, reduceCtorEq, Nat.reduceLT, ↓Br_true, ↓Br_false, bind, pure, sc6, sb6]
              exact hN
            · by_cases ha10 : a ≤ 10
              · by_cases hb10 : b ≤ 10
                · have i5 : decide ((10 : Int) < a) = false := decide_eq_false (by omega)
                  have i6 : decide ((10 : Int) < b) = false := decide_eq_false (by omega)
                  have hS : sS t = true := by rw [eS]; simp [ha10, hb10]
                  have eOk : specOk t = (oS t (last - 1) && vRoom (rS t) (uS t) (last - 1)) := by unfold specOk; rw [hH, hS, hl]; rfl
                  rw [eOk, show cnt t - 2 = last - 1 by omega]
                  (have cc := cB; (first | ((first | refine callR (by rfl) (by rfl) (by rfl) cc ?_ | refine callM (by rfl) (by rfl) (by rfl) cc ?_ | refine callMo (by rfl) (by rfl) (by rfl) cc ?_); clear cc; rintro _ _ ⟨rfl, rfl⟩) | (refine callE (by rfl) cc (by rfl) ?_; clear cc)))
                  simp (config := { maxSteps := 1000000 }) (disch := omega) only [go_sem, Int.reduceToNat, ↓reduceIte, Nat.reduceLT, Nat.reduceEqDiff, Nat.reduceAdd, Nat.reduceMul, Nat.reduceSub, Nat.reduceBEq, Nat.reduceLeDiff, reduceCtorEq, Nat.reduceLT, ↓Br_true, ↓Br_false, bind, pure, sc6, sb6, i5, i6]
                  have eRw : (rS t).wi = (a : Int) := by rw [eR]
                  have eRh : (rS t).hi = (b : Int) := by rw [eR]
                  have hrb : (-128 ≤ (rS t).wi ∧ (rS t).wi ≤ 127) ∧ -128 ≤ (rS t).hi ∧ (rS t).hi ≤ 127 := by rw [eRw, eRh]; omega
                  rw [← eRw, ← eRh]
                  refine ⟨(Nat × Option (Nat × (Nat → List FV))), fun s => s.1 ≤ last - 1 ∧ oS t s.1 = true ∧ rmI (uS t) s.1 s.2, fun s => last - 1 - s.1, fun s => [(2, .ptr 0 0 0), (3, .f (.int .i64 0)), (4, .slc 1 0 (last + 1) cap), (5, .f (.int .i64 last)), (11, .ptr 3 0 0), (12, .f (.int .i64 ((s.1 + 1 : Nat) : Int)))], fun s => [.lit [.f (.int .i8 0), .f (.int .i8 0), .f .nils] true, .rows (last + 1) cap 1 g true, .rows 2 cap2 1 g2 true, rmB (rS t).wi (rS t).hi s.1 s.2] ++ rmE s.1 s.2, (0, none), (by intro _; simp), ?_, (by (try refine Or.inl ?_); simp [Cov, covE, covH, cb_dead, cb_lit, cb_rows, cb_cells, cd_lit, cd_rows, cd_cells, cd_dead, covRow, look, SV.known, SV.bd, bdL, rmB, rmE, hcap, hcap2, List.cons_append, List.nil_append] <;> omega), ?_⟩
                  · exact ⟨by omega, rfl, rfl⟩
                  · rintro ⟨m, ow⟩ ⟨hm, hoS, hI⟩
                    simp only at hm hoS hI
                    by_cases hlt : m < last - 1
                    · have hd : decide (((m + 1 : Nat) : Int) < last) = true := decide_eq_true (by omega)
                      have gm : g (m + 1) = [.str (bs (lnA t (m + 1)))] := (hg (m + 1) (by omega)).trans (la (m + 1))
                      have cL := l03Line_cv (lnA t (m + 1)) (Nat.le_trans (lnA_len t _) ht)
                      have eu : lnU (lnA t (m + 1)) = uS t m := rfl
                      rw [eu] at cL
                      have fvE : (uS t m).fv = [.int .i8 (uS t m).w, .int .i8 (uS t m).a, .flt .f32 (uS t m).l] := rfl
                      cases hk : lnOk (lnA t (m + 1))
                      · rw [hk] at cL
                        have hN : ReadRes (oS t (last - 1) && vRoom (rS t) (uS t) (last - 1)) (rS t) (uS t) (last - 1) badV [] := by
                          rw [oS_no hlt hk]; exact ⟨rfl, rfl⟩
                        rcases ow with _ | ⟨c1, g1⟩
                        · simp only [rmB, rmE, List.cons_append, List.nil_append]
                          simp (config := { maxSteps := 1000000 }) (disch := omega) only [go_sem, Int.reduceToNat, ↓reduceIte, Nat.reduceLT, Nat.reduceEqDiff, Nat.reduceAdd, Nat.reduceMul, Nat.reduceSub, Nat.reduceBEq, Nat.reduceLeDiff, reduceCtorEq, Nat.reduceLT, ↓Br_true, ↓Br_false, bind, pure, sc6, sb6, hd, gm]
                          refine ⟨⟨by omega, by omega⟩, ?_⟩
                          (have cc := cL; (first | ((first | refine callR (by rfl) (by rfl) (by rfl) cc ?_ | refine callM (by rfl) (by rfl) (by rfl) cc ?_ | refine callMo (by rfl) (by rfl) (by rfl) cc ?_); clear cc; rintro _ _ ⟨rfl, rfl⟩) | (refine callE (by rfl) cc (by rfl) ?_; clear cc)))
                          simp (config := { maxSteps := 1000000 }) (disch := omega) only [go_sem, Int.reduceToNat, ↓reduceIte, Nat.reduceLT, Nat.reduceEqDiff, Nat.reduceAdd, Nat.reduceMul, Nat.reduceSub, Nat.reduceBEq, Nat.reduceLeDiff, reduceCtorEq, Nat.reduceLT, ↓Br_true, ↓Br_false, bind, pure, sc6, sb6, gm]
                          exact hN
                        · simp only [rmB, rmE, List.cons_append, List.nil_append]
                          simp (config := { maxSteps := 1000000 }) (disch := omega) only [go_sem, Int.reduceToNat, ↓reduceIte, Nat.reduceLT, Nat.reduceEqDiff, Nat.reduceAdd, Nat.reduceMul, Nat.reduceSub, Nat.reduceBEq, Nat.reduceLeDiff, reduceCtorEq, Nat.reduceLT, ↓Br_true, ↓Br_false, bind, pure, sc6, sb6, hd, gm]
                          refine ⟨⟨by omega, by omega⟩, ?_⟩
                          (have cc := cL; (first | ((first | refine callR (by rfl) (by rfl) (by rfl) cc ?_ | refine callM (by rfl) (by rfl) (by rfl) cc ?_ | refine callMo (by rfl) (by rfl) (by rfl) cc ?_); clear cc; rintro _ _ ⟨rfl, rfl⟩) | (refine callE (by rfl) cc (by rfl) ?_; clear cc)))
                          simp (config := { maxSteps := 1000000 }) (disch := omega) only [go_sem, Int.reduceToNat, ↓reduceIte, Nat.reduceLT, Nat.reduceEqDiff, Nat.reduceAdd, Nat.reduceMul, Nat.reduceSub, Nat.reduceBEq, Nat.reduceLeDiff, reduceCtorEq, Nat.reduceLT, ↓Br_true, ↓Br_false, bind, pure, sc6, sb6, gm]
                          exact hN
                      · rw [hk] at cL
                        have hoS2 : oS t (m + 1) = true := by rw [oS_succ, hoS, hk]; rfl
                        rcases ow with _ | ⟨c1, g1⟩
                        · obtain rfl : m = 0 := hI
                          simp only [rmB, rmE, List.cons_append, List.nil_append]
                          simp (config := { maxSteps := 1000000 }) (disch := omega) only [go_sem, Int.reduceToNat, ↓reduceIte, Nat.reduceLT, Nat.reduceEqDiff, Nat.reduceAdd, Nat.reduceMul, Nat.reduceSub, Nat.reduceBEq, Nat.reduceLeDiff, reduceCtorEq, Nat.reduceLT, ↓Br_true, ↓Br_false, bind, pure, sc6, sb6, hd, gm]
                          refine ⟨⟨by omega, by omega⟩, ?_⟩
                          (have cc := cL; (first | ((first | refine callR (by rfl) (by rfl) (by rfl) cc ?_ | refine callM (by rfl) (by rfl) (by rfl) cc ?_ | refine callMo (by rfl) (by rfl) (by rfl) cc ?_); clear cc; rintro _ _ ⟨rfl, rfl⟩) | (refine callE (by rfl) cc (by rfl) ?_; clear cc)))
                          simp (config := { maxSteps := 1000000 }) (disch := omega) only [go_sem, Int.reduceToNat, ↓reduceIte, Nat.reduceLT, Nat.reduceEqDiff, Nat.reduceAdd, Nat.reduceMul, Nat.reduceSub, Nat.reduceBEq, Nat.reduceLeDiff, reduceCtorEq, Nat.reduceLT, ↓Br_true, ↓Br_false, bind, pure, sc6, sb6, gm]
                          intro c2 hc2
                          have hc2 : 1 ≤ c2 := hc2
                          simp (config := { maxSteps := 1000000 }) (disch := omega) only [go_sem, Int.reduceToNat, ↓reduceIte, Nat.reduceLT, Nat.reduceEqDiff, Nat.reduceAdd, Nat.reduceMul, Nat.reduceSub, Nat.reduceBEq, Nat.reduceLeDiff, reduceCtorEq, Nat.reduceLT, ↓Br_true, ↓Br_false, bind, pure, sc6, sb6]
                          exact ⟨(1, some (c2, shR (nthR [ (uS t 0).fv ]) 0)), ⟨by simp only; omega, hoS2, Nat.le_refl 1, hc2, romPush (g := fun _ => []) (fun i hi => absurd hi (by omega)) (uS t 0) rfl⟩, by simp only; omega, by refine Or.inr ⟨[0, 1, 2, 3, 6], by rfl, ?_⟩; simp [Cov, covE, covH, cb_dead, cb_lit, cb_rows, cb_cells, cd_lit, cd_rows, cd_cells, cd_dead, covRow, look, SV.known, SV.bd, bdL, locE, locV, locH, hget, SV.lin, inL, SV.ren, idx, bk_ren_lit, bk_ren_rows, bk_ren_cells, renL, hcap, hcap2, hc2, rmB, rmE, fvE, List.cons_append, List.nil_append] <;> omega⟩
                        · obtain ⟨hm1, hc1, hg1⟩ : 1 ≤ m ∧ m ≤ c1 ∧ ∀ i, i < m → g1 i = (uS t i).fv := hI
                          simp only [rmB, rmE, List.cons_append, List.nil_append]
                          simp (config := { maxSteps := 1000000 }) (disch := omega) only [go_sem, Int.reduceToNat, ↓reduceIte, Nat.reduceLT, Nat.reduceEqDiff, Nat.reduceAdd, Nat.reduceMul, Nat.reduceSub, Nat.reduceBEq, Nat.reduceLeDiff, reduceCtorEq, Nat.reduceLT, ↓Br_true, ↓Br_false, bind, pure, sc6, sb6, hd, gm]
                          refine ⟨⟨by omega, by omega⟩, ?_⟩
                          (have cc := cL; (first | ((first | refine callR (by rfl) (by rfl) (by rfl) cc ?_ | refine callM (by rfl) (by rfl) (by rfl) cc ?_ | refine callMo (by rfl) (by rfl) (by rfl) cc ?_); clear cc; rintro _ _ ⟨rfl, rfl⟩) | (refine callE (by rfl) cc (by rfl) ?_; clear cc)))
                          simp (config := { maxSteps := 1000000 }) (disch := omega) only [go_sem, Int.reduceToNat, ↓reduceIte, Nat.reduceLT, Nat.reduceEqDiff, Nat.reduceAdd, Nat.reduceMul, Nat.reduceSub, Nat.reduceBEq, Nat.reduceLeDiff, reduceCtorEq, Nat.reduceLT, ↓Br_true, ↓Br_false, bind, pure, sc6, sb6, gm]
                          refine ⟨⟨Nat.le_refl _, by omega⟩, Or.inr (Or.inl ⟨⟨rfl, Nat.le_refl _⟩, fun c2 hc2 => ?_⟩)⟩
                          have hc2 : m + 1 ≤ c2 := hc2
                          simp (config := { maxSteps := 1000000 }) (disch := omega) only [go_sem, Int.reduceToNat, ↓reduceIte, Nat.reduceLT, Nat.reduceEqDiff, Nat.reduceAdd, Nat.reduceMul, Nat.reduceSub, Nat.reduceBEq, Nat.reduceLeDiff, reduceCtorEq, Nat.reduceLT, ↓Br_true, ↓Br_false, bind, pure, sc6, sb6]
                          exact ⟨(m + 1, some (c2, catR g1 m (shR (nthR [ (uS t m).fv ]) 0))), ⟨by simp only; omega, hoS2, by omega, hc2, romPush hg1 (uS t m) rfl⟩, by simp only; omega, by refine Or.inr ⟨[0, 1, 2, 3, 7], by rfl, ?_⟩; simp [Cov, covE, covH, cb_dead, cb_lit, cb_rows, cb_cells, cd_lit, cd_rows, cd_cells, cd_dead, covRow, look, SV.known, SV.bd, bdL, locE, locV, locH, hget, SV.lin, inL, SV.ren, idx, bk_ren_lit, bk_ren_rows, bk_ren_cells, renL, hcap, hcap2, hc2, rmB, rmE, fvE, List.cons_append, List.nil_append] <;> omega⟩
                    · have hd : decide (((m + 1 : Nat) : Int) < last) = false := decide_eq_false (by omega)
                      obtain rfl : m = last - 1 := by omega
                      rw [hoS]
                      rcases ow with _ | ⟨c1, g1⟩
                      · have h0 : last - 1 = 0 := hI
                        rw [h0] at hd ⊢
                        simp only [rmB, rmE, List.cons_append, List.nil_append]
                        have cO := l03OkN_cv (rS t) (uS t) hrb
                        cases hv : vRoom (rS t) (uS t) 0
                        all_goals rw [hv] at cO
                        · simp (config := { maxSteps := 1000000 }) (disch := omega) only [go_sem, Int.reduceToNat, ↓reduceIte, Nat.reduceLT, Nat.reduceEqDiff, Nat.reduceAdd, Nat.reduceMul, Nat.reduceSub, Nat.reduceBEq, Nat.reduceLeDiff, reduceCtorEq, Nat.reduceLT, ↓Br_true, ↓Br_false, bind, pure, sc6, sb6, hd]
                          repeat' (first | (with_reducible refine And.intro (by first | (unfold SOk; kernel_rfl) | (unfold SBOk; kernel_rfl) | (with_reducible assumption) | omega | assumption) ?_) | (with_reducible refine Br_intro (fun hc => ?_) (fun hc => ?_)) | ((have cc := cO; (first | ((first | refine callR (by rfl) (by rfl) (by rfl) cc ?_ | refine callM (by rfl) (by rfl) (by rfl) cc ?_ | refine callMo (by rfl) (by rfl) (by rfl) cc ?_); clear cc; rintro _ _ ⟨rfl, rfl⟩) | (refine callE (by rfl) cc (by rfl) ?_; clear cc))); simp (config := { maxSteps := 1000000 }) (disch := omega) only [go_sem, Int.reduceToNat, ↓reduceIte, Nat.reduceLT, Nat.reduceEqDiff, Nat.reduceAdd, Nat.reduceMul, Nat.reduceSub, Nat.reduceBEq, Nat.reduceLeDiff, reduceCtorEq, Nat.reduceLT, ↓Br_true, ↓Br_false, bind, pure, sc6, sb6, hd]) | ((with_reducible show WidN _ _ _ _ _ _ _ _); (first | refine widL (by decide) (by with_reducible assumption) ?_ | refine widL (by decide) (FWok_nn (by with_reducible assumption)) ?_ | refine widN (by decide) (fun c hc => ?_)); simp (config := { maxSteps := 1000000 }) (disch := omega) only [go_sem, Int.reduceToNat, ↓reduceIte, Nat.reduceLT, Nat.reduceEqDiff, Nat.reduceAdd, Nat.reduceMul, Nat.reduceSub, Nat.reduceBEq, Nat.reduceLeDiff, reduceCtorEq, Nat.reduceLT, ↓Br_true, ↓Br_false, bind, pure, sc6, sb6, hd]))
                          exact ⟨rfl, rfl⟩
                        · simp (config := { maxSteps := 1000000 }) (disch := omega) only [go_sem, Int.reduceToNat, ↓reduceIte, Nat.reduceLT, Nat.reduceEqDiff, Nat.reduceAdd, Nat.reduceMul, Nat.reduceSub, Nat.reduceBEq, Nat.reduceLeDiff, reduceCtorEq, Nat.reduceLT, ↓Br_true, ↓Br_false, bind, pure, sc6, sb6, hd]
                          repeat' (first | (with_reducible refine And.intro (by first | (unfold SOk; kernel_rfl) | (unfold SBOk; kernel_rfl) | (with_reducible assumption) | omega | assumption) ?_) | (with_reducible refine Br_intro (fun hc => ?_) (fun hc => ?_)) | ((have cc := cO; (first | ((first | refine callR (by rfl) (by rfl) (by rfl) cc ?_ | refine callM (by rfl) (by rfl) (by rfl) cc ?_ | refine callMo (by rfl) (by rfl) (by rfl) cc ?_); clear cc; rintro _ _ ⟨rfl, rfl⟩) | (refine callE (by rfl) cc (by rfl) ?_; clear cc))); simp (config := { maxSteps := 1000000 }) (disch := omega) only [go_sem, Int.reduceToNat, ↓reduceIte, Nat.reduceLT, Nat.reduceEqDiff, Nat.reduceAdd, Nat.reduceMul, Nat.reduceSub, Nat.reduceBEq, Nat.reduceLeDiff, reduceCtorEq, Nat.reduceLT, ↓Br_true, ↓Br_false, bind, pure, sc6, sb6, hd]) | ((with_reducible show WidN _ _ _ _ _ _ _ _); (first | refine widL (by decide) (by with_reducible assumption) ?_ | refine widL (by decide) (FWok_nn (by with_reducible assumption)) ?_ | refine widN (by decide) (fun c hc => ?_)); simp (config := { maxSteps := 1000000 }) (disch := omega) only [go_sem, Int.reduceToNat, ↓reduceIte, Nat.reduceLT, Nat.reduceEqDiff, Nat.reduceAdd, Nat.reduceMul, Nat.reduceSub, Nat.reduceBEq, Nat.reduceLeDiff, reduceCtorEq, Nat.reduceLT, ↓Br_true, ↓Br_false, bind, pure, sc6, sb6, hd]))
                          exact .inl ⟨rfl, rfl, rfl⟩
                      · obtain ⟨hm1, hc1, hg1⟩ : 1 ≤ last - 1 ∧ last - 1 ≤ c1 ∧ ∀ i, i < last - 1 → g1 i = (uS t i).fv := hI
                        simp only [rmB, rmE, List.cons_append, List.nil_append]
                        have H : RomH (rS t) (uS t) (last - 1) c1 g1 := ⟨hg1, hc1, by omega, hrb.1, hrb.2, fun i _ => lnU_sm _⟩
                        have cO := l03Ok_cv (rS t) (uS t) (last - 1) c1 g1 H
                        cases hv : vRoom (rS t) (uS t) (last - 1)
                        all_goals rw [hv] at cO
                        · simp (config := { maxSteps := 1000000 }) (disch := omega) only [go_sem, Int.reduceToNat, ↓reduceIte, Nat.reduceLT, Nat.reduceEqDiff, Nat.reduceAdd, Nat.reduceMul, Nat.reduceSub, Nat.reduceBEq, Nat.reduceLeDiff, reduceCtorEq, Nat.reduceLT, ↓Br_true, ↓Br_false, bind, pure, sc6, sb6, hd]
                          repeat' (first | (with_reducible refine And.intro (by first | (unfold SOk; kernel_rfl) | (unfold SBOk; kernel_rfl) | (with_reducible assumption) | omega | assumption) ?_) | (with_reducible refine Br_intro (fun hc => ?_) (fun hc => ?_)) | ((have cc := cO; (first | ((first | refine callR (by rfl) (by rfl) (by rfl) cc ?_ | refine callM (by rfl) (by rfl) (by rfl) cc ?_ | refine callMo (by rfl) (by rfl) (by rfl) cc ?_); clear cc; rintro _ _ ⟨rfl, rfl⟩) | (refine callE (by rfl) cc (by rfl) ?_; clear cc))); simp (config := { maxSteps := 1000000 }) (disch := omega) only [go_sem, Int.reduceToNat, ↓reduceIte, Nat.reduceLT, Nat.reduceEqDiff, Nat.reduceAdd, Nat.reduceMul, Nat.reduceSub, Nat.reduceBEq, Nat.reduceLeDiff, reduceCtorEq, Nat.reduceLT, ↓Br_true, ↓Br_false, bind, pure, sc6, sb6, hd]) | ((with_reducible show WidN _ _ _ _ _ _ _ _); (first | refine widL (by decide) (by with_reducible assumption) ?_ | refine widL (by decide) (FWok_nn (by with_reducible assumption)) ?_ | refine widN (by decide) (fun c hc => ?_)); simp (config := { maxSteps := 1000000 }) (disch := omega) only [go_sem, Int.reduceToNat, ↓reduceIte, Nat.reduceLT, Nat.reduceEqDiff, Nat.reduceAdd, Nat.reduceMul, Nat.reduceSub, Nat.reduceBEq, Nat.reduceLeDiff, reduceCtorEq, Nat.reduceLT, ↓Br_true, ↓Br_false, bind, pure, sc6, sb6, hd]))
                          exact ⟨rfl, rfl⟩
                        · simp (config := { maxSteps := 1000000 }) (disch := omega) only [go_sem, Int.reduceToNat, ↓reduceIte, Nat.reduceLT, Nat.reduceEqDiff, Nat.reduceAdd, Nat.reduceMul, Nat.reduceSub, Nat.reduceBEq, Nat.reduceLeDiff, reduceCtorEq, Nat.reduceLT, ↓Br_true, ↓Br_false, bind, pure, sc6, sb6, hd]
                          repeat' (first | (with_reducible refine And.intro (by first | (unfold SOk; kernel_rfl) | (unfold SBOk; kernel_rfl) | (with_reducible assumption) | omega | assumption) ?_) | (with_reducible refine Br_intro (fun hc => ?_) (fun hc => ?_)) | ((have cc := cO; (first | ((first | refine callR (by rfl) (by rfl) (by rfl) cc ?_ | refine callM (by rfl) (by rfl) (by rfl) cc ?_ | refine callMo (by rfl) (by rfl) (by rfl) cc ?_); clear cc; rintro _ _ ⟨rfl, rfl⟩) | (refine callE (by rfl) cc (by rfl) ?_; clear cc))); simp (config := { maxSteps := 1000000 }) (disch := omega) only [go_sem, Int.reduceToNat, ↓reduceIte, Nat.reduceLT, Nat.reduceEqDiff, Nat.reduceAdd, Nat.reduceMul, Nat.reduceSub, Nat.reduceBEq, Nat.reduceLeDiff, reduceCtorEq, Nat.reduceLT, ↓Br_true, ↓Br_false, bind, pure, sc6, sb6, hd]) | ((with_reducible show WidN _ _ _ _ _ _ _ _); (first | refine widL (by decide) (by with_reducible assumption) ?_ | refine widL (by decide) (FWok_nn (by with_reducible assumption)) ?_ | refine widN (by decide) (fun c hc => ?_)); simp (config := { maxSteps := 1000000 }) (disch := omega) only [go_sem, Int.reduceToNat, ↓reduceIte, Nat.reduceLT, Nat.reduceEqDiff, Nat.reduceAdd, Nat.reduceMul, Nat.reduceSub, Nat.reduceBEq, Nat.reduceLeDiff, reduceCtorEq, Nat.reduceLT, ↓Br_true, ↓Br_false, bind, pure, sc6, sb6, hd]))
                          exact .inr ⟨c1, g1, hm1, hc1, hg1, rfl, rfl⟩
                · have i5 : decide ((10 : Int) < a) = false := decide_eq_false (by omega)
                  have i6 : decide ((10 : Int) < b) = true := decide_eq_true (by omega)
                  have hN := no (by rw [eS]; simp [hb10])
                  (have cc := cB; (first | ((first | refine callR (by rfl) (by rfl) (by rfl) cc ?_ | refine callM (by rfl) (by rfl) (by rfl) cc ?_ | refine callMo (by rfl) (by rfl) (by rfl) cc ?_); clear cc; rintro _ _ ⟨rfl, rfl⟩) | (refine callE (by rfl) cc (by rfl) ?_; clear cc)))
                  simp (config := { maxSteps := 1000000 }) (disch := omega) only [go_sem, Int.reduceToNat, ↓reduceIte, Nat.reduceLT, Nat.reduceEqDiff, Nat.reduceAdd, Nat.reduceMul, Nat.reduceSub, Nat.reduceBEq, Nat.reduceLeDiff, reduceCtorEq, Nat.reduceLT, ↓Br_true, ↓Br_false, bind, pure, sc6, sb6, i5, i6]
                  exact hN
              · have i5 : decide ((10 : Int) < a) = true := decide_eq_true (by omega)
                have hN := no (by rw [eS]; simp [ha10])
                (have cc := cB; (first | ((first | refine callR (by rfl) (by rfl) (by rfl) cc ?_ | refine callM (by rfl) (by rfl) (by rfl) cc ?_ | refine callMo (by rfl) (by rfl) (by rfl) cc ?_); clear cc; rintro _ _ ⟨rfl, rfl⟩) | (refine callE (by rfl) cc (by rfl) ?_; clear cc)))
                simp (config := { maxSteps := 1000000 }) (disch := omega) only [go_sem, Int.reduceToNat, ↓reduceIte, Nat.reduceLT, Nat.reduceEqDiff, Nat.reduceAdd, Nat.reduceMul, Nat.reduceSub, Nat.reduceBEq, Nat.reduceLeDiff, reduceCtorEq, Nat.reduceLT, ↓Br_true, ↓Br_false, bind, pure, sc6, sb6, i5]
                exact hN
        · have i2 : decide ((last : Int) < 1) = false := decide_eq_false (by omega)
          have i3 : decide ((13 : Int) < last) = false := decide_eq_false (by omega)
          have i4 : decide ((q : Int) = 2) = false := decide_eq_false (by omega)
          have hb : specOk t = false := by simp [specOk, eH, h4]
          rw [hb]
          simp (config := { maxSteps := 1000000 }) (disch := omega) only [go_sem, Int.reduceToNat, ↓reduceIte, Nat.reduceLT, Nat.reduceEqDiff, Nat.reduceAdd, Nat.reduceMul, Nat.reduceSub, Nat.reduceBEq, Nat.reduceLeDiff, reduceCtorEq, Nat.reduceLT, ↓Br_true, ↓Br_false, bind, pure, sc6, sb6, el, gl, eE, i2, i3, i4]
          exact ⟨⟨by omega, by omega⟩, rfl, rfl⟩
      · have i2 : decide ((last : Int) < 1) = false := decide_eq_false (by omega)
        have i3 : decide ((13 : Int) < last) = true := decide_eq_true (by omega)
        have hb : specOk t = false := by simp [specOk, eH, h3]
        rw [hb]
        simp (config := { maxSteps := 1000000 }) (disch := omega) only [go_sem, Int.reduceToNat, ↓reduceIte, Nat.reduceLT, Nat.reduceEqDiff, Nat.reduceAdd, Nat.reduceMul, Nat.reduceSub, Nat.reduceBEq, Nat.reduceLeDiff, reduceCtorEq, Nat.reduceLT, ↓Br_true, ↓Br_false, bind, pure, sc6, sb6, el, gl, eE, i2, i3]
        exact ⟨⟨by omega, by omega⟩, rfl, rfl⟩
    · have i2 : decide ((last : Int) < 1) = true := decide_eq_true (by omega)
      have hb : specOk t = false := by simp [specOk, eH, h2]
      rw [hb]
      simp (config := { maxSteps := 1000000 }) (disch := omega) only [go_sem, Int.reduceToNat, ↓reduceIte, Nat.reduceLT, Nat.reduceEqDiff, Nat.reduceAdd, Nat.reduceMul, Nat.reduceSub, Nat.reduceBEq, Nat.reduceLeDiff, reduceCtorEq, Nat.reduceLT, ↓Br_true, ↓Br_false, bind, pure, sc6, sb6, el, gl, eE, i2]
      exact ⟨⟨by omega, by omega⟩, rfl, rfl⟩
end Go.Proofs.YtpcnpmhpelbndaaGreatDoor.Vx
