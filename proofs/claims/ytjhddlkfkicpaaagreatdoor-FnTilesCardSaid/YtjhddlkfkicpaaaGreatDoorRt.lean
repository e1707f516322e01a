/- Rooms, in the abstract: all tiles. -/
import Derived.Test.YtjhddlkfkicpaaaGreatDoorRx
namespace Go.Proofs.YtjhddlkfkicpaaaGreatDoor.Vx
open Go Go.RowKit Fl
set_option maxRecDepth 100000
set_option maxHeartbeats 2000000
set_option linter.unusedSimpArgs false
set_option linter.unusedVariables false

def rowT (y : Int) : Nat → List (Int × Int)
  | 0 => []
  | k + 1 => rowT y k ++ [((k : Int), y)]
def allT (w : Nat) : Nat → List (Int × Int)
  | 0 => []
  | k + 1 => allT w k ++ rowT k w
theorem rowT_len (y : Int) : ∀ k, (rowT y k).length = k
  | 0 => rfl
  | k + 1 => by simp [rowT, rowT_len y k]
theorem allT_len (w : Nat) : ∀ k, (allT w k).length = k * w
  | 0 => by simp [allT]
  | k + 1 => by simp [allT, allT_len w k, rowT_len, Nat.succ_mul]
theorem rowT_mem {y : Int} {p : Int × Int} : ∀ {k}, p ∈ rowT y k → (0 ≤ p.1 ∧ p.1 < k) ∧ p.2 = y
  | 0, h => by cases h
  | k + 1, h => by
    simp only [rowT, List.mem_append, List.mem_singleton] at h
    rcases h with h | rfl
    · have ⟨⟨_, _⟩, e⟩ := rowT_mem h
      exact ⟨⟨by omega, by omega⟩, e⟩
    · exact ⟨⟨by simp only; omega, by simp only; omega⟩, rfl⟩
theorem allT_mem {w : Nat} {p : Int × Int} : ∀ {k}, p ∈ allT w k → (0 ≤ p.1 ∧ p.1 < w) ∧ 0 ≤ p.2 ∧ p.2 < k
  | 0, h => by cases h
  | k + 1, h => by
    simp only [allT, List.mem_append] at h
    rcases h with h | h
    · have ⟨⟨_, _⟩, _, _⟩ := allT_mem h
      exact ⟨⟨by omega, by omega⟩, by omega, by omega⟩
    · have ⟨⟨_, _⟩, _⟩ := rowT_mem h
      exact ⟨⟨by omega, by omega⟩, by omega, by omega⟩
/-- All tiles of a room, by rows. -/
def tilesL (r : Rom) : List (Int × Int) := allT r.wi.toNat r.hi.toNat
theorem tilesL_len (r : Rom) : (tilesL r).length = r.hi.toNat * r.wi.toNat := allT_len _ _
theorem tilesL_mem {r : Rom} {p : Int × Int} (h : p ∈ tilesL r) : hasT r p = true := by
  have := allT_mem h
  simp only [hasT, decide_eq_true_eq]; omega
theorem tilesL_le {r : Rom} (hr : r.sz) : 1 ≤ (tilesL r).length ∧ (tilesL r).length ≤ 100 := by
  obtain ⟨⟨h1, h2⟩, h3, h4⟩ := hr
  rw [tilesL_len]
  obtain ⟨a, ha⟩ : ∃ a, a = r.hi.toNat := ⟨_, rfl⟩
  obtain ⟨b, hb⟩ : ∃ b, b = r.wi.toNat := ⟨_, rfl⟩
  rw [← ha, ← hb]
  have a1 : 1 ≤ a ∧ a ≤ 10 := by omega
  have b1 : 1 ≤ b ∧ b ≤ 10 := by omega
  exact ⟨Nat.mul_pos (by omega) (by omega), Nat.le_trans (Nat.mul_le_mul a1.2 b1.2) (by omega)⟩
def tlN (L : List (Int × Int)) (i : Nat) : Int × Int := L.getD i (0, 0)
/-- A list of tiles lies in a block. -/
def TilAt (L : List (Int × Int)) (f : Nat → List FV) : Prop := ∀ i, i < L.length → f i = [.int .i8 (tlN L i).1, .int .i8 (tlN L i).2]
theorem tlN_mem {L : List (Int × Int)} {i : Nat} (h : i < L.length) : tlN L i ∈ L := by
  unfold tlN
  rw [List.getD_eq_getElem?_getD, List.getElem?_eq_getElem h]
  exact List.getElem_mem h
theorem tl_in {r : Rom} (hr : r.sz) {k : Nat} (hk : k < (tilesL r).length) : inR (tlN (tilesL r) k) := has_in hr (tilesL_mem (tlN_mem hk))
theorem TilAt.push {L : List (Int × Int)} {f : Nat → List FV} (h : TilAt L f) (p : Int × Int) : TilAt (L ++ [p]) (catR f L.length (shR (nthR [ [.int .i8 p.1, .int .i8 p.2] ]) 0)) := fun i hi => by
  simp only [List.length_append, List.length_singleton] at hi
  unfold catR
  by_cases c : i < L.length
  · rw [if_pos c, h i c]
    simp only [tlN, List.getD_eq_getElem?_getD, List.getElem?_append_left c]
  · obtain rfl : i = L.length := by omega
    rw [if_neg c]
    simp [shR, nthR, tlN]
theorem tiles_cv (r : Rom) (n cap : Nat) (f : Nat → List FV) (hr : r.sz) (hcap : n ≤ cap) :
    CV Tryz.prog 43 [.ptr 0 0 0] [romB r n cap false, .rows n cap 3 f false] (fun v h => ∃ cap' g, TilAt (tilesL r) g ∧ (tilesL r).length ≤ cap' ∧ v = .slc 2 0 (tilesL r).length cap' ∧ h = [romB r n cap false, .rows n cap 3 f false, .rows (tilesL r).length cap' 2 g true]) := by
  obtain ⟨w, hw⟩ : ∃ w, w = r.wi.toNat := ⟨_, rfl⟩
  obtain ⟨m, hm⟩ : ∃ m, m = r.hi.toNat := ⟨_, rfl⟩
  obtain ⟨⟨h1, h2⟩, h3, h4⟩ := hr
  have ew : r.wi = w := by omega
  have em : r.hi = m := by omega
  have hT : tilesL r = allT w m := by rw [tilesL, hw, hm]
  rw [hT]
  refine cv_of_run 1000 sc43 sb43 30 [.tmp 2] tabOk (by kernel_rfl) Tryz.func43 rfl (by kernel_rfl) Tryz.ntmps43 rfl (by simp) rfl (by simp [bdL, SV.bd]) ?_
  simp (config := { maxSteps := 1000000 }) (disch := omega) only [go_sem, Int.reduceToNat, ↓reduceIte, Nat.reduceLT, Nat.reduceEqDiff, Nat.reduceAdd, Nat.reduceMul, Nat.reduceSub, Nat.reduceBEq, Nat.reduceLeDiff, reduceCtorEq, Nat.reduceLT, ↓Br_true, ↓Br_false, bind, pure, sc43, sb43]
  refine ⟨(Nat × Nat × (Nat → List FV)), fun s => s.1 ≤ m ∧ (allT w s.1).length ≤ s.2.1 ∧ TilAt (allT w s.1) s.2.2, fun s => m - s.1, fun s => [(0, .ptr 0 0 0), (2, .f .nils), (3, .slc 2 0 (allT w s.1).length s.2.1), (10, .f (.int .i8 r.hi)), (11, .f (.int .i8 s.1))], fun s => [romB r n cap false, .rows n cap 3 f false, .rows (allT w s.1).length s.2.1 2 s.2.2 true], (0, 0, nthR []), (by intro _; simp), ?_, (by (try refine Or.inl ?_); simp [Cov, covE, covH, cb_dead, cb_lit, cb_rows, cb_cells, cd_lit, cd_rows, cd_cells, cd_dead, covRow, look, SV.known, SV.bd, bdL, allT, hcap] <;> omega), ?_⟩
  · exact ⟨by omega, by simp [allT], fun i hi => by simp [allT] at hi⟩
  · rintro ⟨k, cap1, f1⟩ ⟨hk, hc1, hI⟩
    simp only at hk hc1 hI
    by_cases hlt : k < m
    · have hd : decide ((k : Int) < r.hi) = true := decide_eq_true (by omega)
      simp (config := { maxSteps := 1000000 }) (disch := omega) only [go_sem, Int.reduceToNat, ↓reduceIte, Nat.reduceLT, Nat.reduceEqDiff, Nat.reduceAdd, Nat.reduceMul, Nat.reduceSub, Nat.reduceBEq, Nat.reduceLeDiff, reduceCtorEq, Nat.reduceLT, ↓Br_true, ↓Br_false, bind, pure, sc43, sb43, hd]
      refine ⟨(Nat × Nat × (Nat → List FV)), fun s => s.1 ≤ w ∧ (allT w k ++ rowT k s.1).length ≤ s.2.1 ∧ TilAt (allT w k ++ rowT k s.1) s.2.2, fun s => w - s.1, fun s => [(0, .ptr 0 0 0), (2, .f .nils), (3, .slc 2 0 (allT w k ++ rowT k s.1).length s.2.1), (4, .f (.int .i8 k)), (10, .f (.int .i8 r.hi)), (11, .f (.int .i8 k)), (17, .f (.int .i8 r.wi)), (18, .f (.int .i8 s.1))], fun s => [romB r n cap false, .rows n cap 3 f false, .rows (allT w k ++ rowT k s.1).length s.2.1 2 s.2.2 true], (0, cap1, f1), (by intro _; simp), ?_, (by (try refine Or.inl ?_); simp [Cov, covE, covH, cb_dead, cb_lit, cb_rows, cb_cells, cd_lit, cd_rows, cd_cells, cd_dead, covRow, look, SV.known, SV.bd, bdL, rowT, List.append_nil, hcap, hc1] <;> omega), ?_⟩
      · exact ⟨by omega, by simpa [rowT] using hc1, by simpa [rowT] using hI⟩
      · rintro ⟨j, cap2, f2⟩ ⟨hj, hc2, hJ⟩
        simp only at hj hc2 hJ
        by_cases hjt : j < w
        · have hd : decide ((j : Int) < r.wi) = true := decide_eq_true (by omega)
          have hlen : (allT w k ++ rowT k j).length ≤ 100 := by
            rw [List.length_append, allT_len, rowT_len]
            have : k * w ≤ 9 * 10 := Nat.mul_le_mul (by omega) (by omega)
            omega
          have hs : allT w k ++ rowT k (j + 1) = (allT w k ++ rowT k j) ++ [((j : Int), (k : Int))] := by simp [rowT]
          simp (config := { maxSteps := 1000000 }) (disch := omega) only [go_sem, Int.reduceToNat, ↓reduceIte, Nat.reduceLT, Nat.reduceEqDiff, Nat.reduceAdd, Nat.reduceMul, Nat.reduceSub, Nat.reduceBEq, Nat.reduceLeDiff, reduceCtorEq, Nat.reduceLT, ↓Br_true, ↓Br_false, bind, pure, sc43, sb43, hd]
          generalize allT w k ++ rowT k j = L at *
          refine ⟨⟨Nat.le_refl _, by omega⟩, Or.inr (Or.inl ⟨⟨rfl, Nat.le_refl _⟩, fun cap' hcap' => ?_⟩)⟩
          simp (config := { maxSteps := 1000000 }) (disch := omega) only [go_sem, Int.reduceToNat, ↓reduceIte, Nat.reduceLT, Nat.reduceEqDiff, Nat.reduceAdd, Nat.reduceMul, Nat.reduceSub, Nat.reduceBEq, Nat.reduceLeDiff, reduceCtorEq, Nat.reduceLT, ↓Br_true, ↓Br_false, bind, pure, sc43, sb43]
          refine ⟨(j + 1, cap', catR f2 L.length (shR (nthR [ [.int .i8 (j : Int), .int .i8 (k : Int)] ]) 0)), ⟨by omega, ?_, ?_⟩, by omega, ?_⟩
          · rw [hs]; simpa using hcap'
          · rw [hs]; exact hJ.push _
          · rw [hs]; refine Or.inr ⟨[0, 1, 4], by rfl, ?_⟩; simp [Cov, covE, covH, cb_dead, cb_lit, cb_rows, cb_cells, cd_lit, cd_rows, cd_cells, cd_dead, covRow, look, SV.known, SV.bd, bdL, locE, locV, locH, hget, SV.lin, inL, SV.ren, idx, bk_ren_lit, bk_ren_rows, bk_ren_cells, renL, hcap'] <;> omega
        · have hd : decide ((j : Int) < r.wi) = false := decide_eq_false (by omega)
          simp (config := { maxSteps := 1000000 }) (disch := omega) only [go_sem, Int.reduceToNat, ↓reduceIte, Nat.reduceLT, Nat.reduceEqDiff, Nat.reduceAdd, Nat.reduceMul, Nat.reduceSub, Nat.reduceBEq, Nat.reduceLeDiff, reduceCtorEq, Nat.reduceLT, ↓Br_true, ↓Br_false, bind, pure, sc43, sb43, hd]
          obtain rfl : j = w := by omega
          have hs : allT j (k + 1) = allT j k ++ rowT k j := rfl
          generalize allT j k ++ rowT k j = L at *
          exact ⟨(k + 1, cap2, f2), ⟨by omega, by rw [hs]; exact hc2, by rw [hs]; exact hJ⟩, by omega, by rw [hs]; (try refine Or.inl ?_); simp [Cov, covE, covH, cb_dead, cb_lit, cb_rows, cb_cells, cd_lit, cd_rows, cd_cells, cd_dead, covRow, look, SV.known, SV.bd, bdL, hc2] <;> omega⟩
    · have hd : decide ((k : Int) < r.hi) = false := decide_eq_false (by omega)
      simp (config := { maxSteps := 1000000 }) (disch := omega) only [go_sem, Int.reduceToNat, ↓reduceIte, Nat.reduceLT, Nat.reduceEqDiff, Nat.reduceAdd, Nat.reduceMul, Nat.reduceSub, Nat.reduceBEq, Nat.reduceLeDiff, reduceCtorEq, Nat.reduceLT, ↓Br_true, ↓Br_false, bind, pure, sc43, sb43, hd]
      obtain rfl : k = m := by omega
      exact ⟨cap1, f1, hI, hc1, rfl, rfl⟩
theorem l03Tiles_cv (r : Rom) (n cap : Nat) (f : Nat → List FV) (hr : r.sz) (hcap : n ≤ cap) :
    CV Tryz.prog 46 [.ptr 0 0 0] [romB r n cap false, .rows n cap 3 f false] (fun v h => ∃ cap' g, TilAt (tilesL r) g ∧ (tilesL r).length ≤ cap' ∧ v = .slc 2 0 (tilesL r).length cap' ∧ h = [romB r n cap false, .rows n cap 3 f false, .rows (tilesL r).length cap' 2 g true]) := by
  obtain ⟨w, hw⟩ : ∃ w, w = r.wi.toNat := ⟨_, rfl⟩
  obtain ⟨m, hm⟩ : ∃ m, m = r.hi.toNat := ⟨_, rfl⟩
  obtain ⟨⟨h1, h2⟩, h3, h4⟩ := hr
  have ew : r.wi = w := by omega
  have em : r.hi = m := by omega
  have hT : tilesL r = allT w m := by rw [tilesL, hw, hm]
  rw [hT]
  refine cv_of_run 1000 sc46 sb46 30 [.tmp 2] tabOk (by kernel_rfl) Tryz.func46 rfl (by kernel_rfl) Tryz.ntmps46 rfl (by simp) rfl (by simp [bdL, SV.bd]) ?_
  simp (config := { maxSteps := 1000000 }) (disch := omega) only [go_sem, Int.reduceToNat, ↓reduceIte, Nat.reduceLT, Nat.reduceEqDiff, Nat.reduceAdd, Nat.reduceMul, Nat.reduceSub, Nat.reduceBEq, Nat.reduceLeDiff, reduceCtorEq, Nat.reduceLT, ↓Br_true, ↓Br_false, bind, pure, sc46, sb46]
  refine ⟨(Nat × Nat × (Nat → List FV)), fun s => s.1 ≤ m ∧ (allT w s.1).length ≤ s.2.1 ∧ TilAt (allT w s.1) s.2.2, fun s => m - s.1, fun s => [(0, .ptr 0 0 0), (2, .f .nils), (3, .slc 2 0 (allT w s.1).length s.2.1), (4, .f (.int .i8 s.1))], fun s => [romB r n cap false, .rows n cap 3 f false, .rows (allT w s.1).length s.2.1 2 s.2.2 true], (0, 0, nthR []), (by intro _; simp), ?_, (by (try refine Or.inl ?_); simp [Cov, covE, covH, cb_dead, cb_lit, cb_rows, cb_cells, cd_lit, cd_rows, cd_cells, cd_dead, covRow, look, SV.known, SV.bd, bdL, allT, hcap] <;> omega), ?_⟩
  · exact ⟨by omega, by simp [allT], fun i hi => by simp [allT] at hi⟩
  · rintro ⟨k, cap1, f1⟩ ⟨hk, hc1, hI⟩
    simp only at hk hc1 hI
    by_cases hlt : k < m
    · have hd : decide ((k : Int) < r.hi) = true := decide_eq_true (by omega)
      simp (config := { maxSteps := 1000000 }) (disch := omega) only [go_sem, Int.reduceToNat, ↓reduceIte, Nat.reduceLT, Nat.reduceEqDiff, Nat.reduceAdd, Nat.reduceMul, Nat.reduceSub, Nat.reduceBEq, Nat.reduceLeDiff, reduceCtorEq, Nat.reduceLT, ↓Br_true, ↓Br_false, bind, pure, sc46, sb46, hd]
      refine ⟨(Nat × Nat × (Nat → List FV)), fun s => s.1 ≤ w ∧ (allT w k ++ rowT k s.1).length ≤ s.2.1 ∧ TilAt (allT w k ++ rowT k s.1) s.2.2, fun s => w - s.1, fun s => [(0, .ptr 0 0 0), (2, .f .nils), (3, .slc 2 0 (allT w k ++ rowT k s.1).length s.2.1), (4, .f (.int .i8 k)), (5, .f (.int .i8 s.1))], fun s => [romB r n cap false, .rows n cap 3 f false, .rows (allT w k ++ rowT k s.1).length s.2.1 2 s.2.2 true], (0, cap1, f1), (by intro _; simp), ?_, (by (try refine Or.inl ?_); simp [Cov, covE, covH, cb_dead, cb_lit, cb_rows, cb_cells, cd_lit, cd_rows, cd_cells, cd_dead, covRow, look, SV.known, SV.bd, bdL, rowT, List.append_nil, hcap, hc1] <;> omega), ?_⟩
      · exact ⟨by omega, by simpa [rowT] using hc1, by simpa [rowT] using hI⟩
      · rintro ⟨j, cap2, f2⟩ ⟨hj, hc2, hJ⟩
        simp only at hj hc2 hJ
        by_cases hjt : j < w
        · have hd : decide ((j : Int) < r.wi) = true := decide_eq_true (by omega)
          have hlen : (allT w k ++ rowT k j).length ≤ 100 := by
            rw [List.length_append, allT_len, rowT_len]
            have : k * w ≤ 9 * 10 := Nat.mul_le_mul (by omega) (by omega)
            omega
          have hs : allT w k ++ rowT k (j + 1) = (allT w k ++ rowT k j) ++ [((j : Int), (k : Int))] := by simp [rowT]
          simp (config := { maxSteps := 1000000 }) (disch := omega) only [go_sem, Int.reduceToNat, ↓reduceIte, Nat.reduceLT, Nat.reduceEqDiff, Nat.reduceAdd, Nat.reduceMul, Nat.reduceSub, Nat.reduceBEq, Nat.reduceLeDiff, reduceCtorEq, Nat.reduceLT, ↓Br_true, ↓Br_false, bind, pure, sc46, sb46, hd]
          generalize allT w k ++ rowT k j = L at *
          refine ⟨⟨Nat.le_refl _, by omega⟩, Or.inr (Or.inl ⟨⟨rfl, Nat.le_refl _⟩, fun cap' hcap' => ?_⟩)⟩
          simp (config := { maxSteps := 1000000 }) (disch := omega) only [go_sem, Int.reduceToNat, ↓reduceIte, Nat.reduceLT, Nat.reduceEqDiff, Nat.reduceAdd, Nat.reduceMul, Nat.reduceSub, Nat.reduceBEq, Nat.reduceLeDiff, reduceCtorEq, Nat.reduceLT, ↓Br_true, ↓Br_false, bind, pure, sc46, sb46]
          refine ⟨(j + 1, cap', catR f2 L.length (shR (nthR [ [.int .i8 (j : Int), .int .i8 (k : Int)] ]) 0)), ⟨by omega, ?_, ?_⟩, by omega, ?_⟩
          · rw [hs]; simpa using hcap'
          · rw [hs]; exact hJ.push _
          · rw [hs]; refine Or.inr ⟨[0, 1, 4], by rfl, ?_⟩; simp [Cov, covE, covH, cb_dead, cb_lit, cb_rows, cb_cells, cd_lit, cd_rows, cd_cells, cd_dead, covRow, look, SV.known, SV.bd, bdL, locE, locV, locH, hget, SV.lin, inL, SV.ren, idx, bk_ren_lit, bk_ren_rows, bk_ren_cells, renL, hcap'] <;> omega
        · have hd : decide ((j : Int) < r.wi) = false := decide_eq_false (by omega)
          simp (config := { maxSteps := 1000000 }) (disch := omega) only [go_sem, Int.reduceToNat, ↓reduceIte, Nat.reduceLT, Nat.reduceEqDiff, Nat.reduceAdd, Nat.reduceMul, Nat.reduceSub, Nat.reduceBEq, Nat.reduceLeDiff, reduceCtorEq, Nat.reduceLT, ↓Br_true, ↓Br_false, bind, pure, sc46, sb46, hd]
          obtain rfl : j = w := by omega
          have hs : allT j (k + 1) = allT j k ++ rowT k j := rfl
          generalize allT j k ++ rowT k j = L at *
          exact ⟨(k + 1, cap2, f2), ⟨by omega, by rw [hs]; exact hc2, by rw [hs]; exact hJ⟩, by omega, by rw [hs]; (try refine Or.inl ?_); simp [Cov, covE, covH, cb_dead, cb_lit, cb_rows, cb_cells, cd_lit, cd_rows, cd_cells, cd_dead, covRow, look, SV.known, SV.bd, bdL, hc2] <;> omega⟩
    · have hd : decide ((k : Int) < r.hi) = false := decide_eq_false (by omega)
      simp (config := { maxSteps := 1000000 }) (disch := omega) only [go_sem, Int.reduceToNat, ↓reduceIte, Nat.reduceLT, Nat.reduceEqDiff, Nat.reduceAdd, Nat.reduceMul, Nat.reduceSub, Nat.reduceBEq, Nat.reduceLeDiff, reduceCtorEq, Nat.reduceLT, ↓Br_true, ↓Br_false, bind, pure, sc46, sb46, hd]
      obtain rfl : k = m := by omega
      exact ⟨cap1, f1, hI, hc1, rfl, rfl⟩
end Go.Proofs.YtjhddlkfkicpaaaGreatDoor.Vx
