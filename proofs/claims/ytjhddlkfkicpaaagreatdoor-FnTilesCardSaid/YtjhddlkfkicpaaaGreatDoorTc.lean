/- The text of a number. -/
import Derived.Test.YtjhddlkfkicpaaaGreatDoorTa
import Derived.Test.YtjhddlkfkicpaaaGreatDoorW1
namespace Go.Proofs.YtjhddlkfkicpaaaGreatDoor.Vx
set_option linter.unusedSimpArgs false
set_option linter.unusedVariables false
open Go Go.RowKit Fl
set_option maxRecDepth 100000
set_option maxHeartbeats 4000000
set_option linter.unusedSimpArgs false
set_option linter.unusedVariables false

/-- A digit of base 16. -/
def hexd (k : Nat) : UInt8 := UInt8.ofNat (if k < 10 then 48 + k else 87 + k)
/-- So many digits. -/
def hexN : Nat → Nat → List UInt8
  | _, 0 => []
  | b, n + 1 => hexN (b / 16) n ++ [hexd (b % 16)]
theorem hexN_len : ∀ n b, (hexN b n).length = n
  | 0, _ => rfl
  | n + 1, b => by simp [hexN, hexN_len n]
theorem hexN_zero : ∀ n, hexN 0 n = List.replicate n 48
  | 0 => rfl
  | n + 1 => by
    rw [hexN, Nat.zero_div, hexN_zero n, List.replicate_succ']
    rfl
theorem hexN_pad (m : Nat) : ∀ d u, u < 16 ^ d → hexN u (m + d) = List.replicate m 48 ++ hexN u d
  | 0, u, h => by
    obtain rfl : u = 0 := by simpa using h
    rw [Nat.add_zero, hexN_zero]; simp [hexN]
  | d + 1, u, h => by
    have h' : u / 16 < 16 ^ d := by
      rw [Nat.pow_succ] at h
      omega
    rw [show m + (d + 1) = (m + d) + 1 from rfl, hexN, hexN_pad m d _ h', hexN, List.append_assoc]
theorem rep48 (m : Nat) : Lib.repeatL [48] m = List.replicate m 48 := by
  have := Lib.repeatL_replicate 48 1 m
  rw [Nat.mul_one] at this
  exact this
theorem pow_div (u : Nat) : ∀ k, u / 16 ^ k / 16 = u / 16 ^ (k + 1) := fun k => by
  rw [Nat.div_div_eq_div_mul, Nat.pow_succ]
/-- Digits, read from the left. -/
theorem hexN_get : ∀ n b j, j < n → (hexN b n)[j]? = some (hexd (b / 16 ^ (n - 1 - j) % 16))
  | n + 1, b, j, h => by
    rw [hexN]
    by_cases hj : j < n
    · rw [List.getElem?_append_left (by rw [hexN_len]; exact hj), hexN_get n (b / 16) j hj]
      have e : n + 1 - 1 - j = (n - 1 - j) + 1 := by omega
      rw [e, Nat.div_div_eq_div_mul, Nat.pow_succ, Nat.mul_comm 16]
    · obtain rfl : j = n := by omega
      rw [List.getElem?_append_right (by rw [hexN_len]; exact Nat.le_refl _), hexN_len]
      simp
theorem hexN_eq (n b : Nat) : hexN b n = (List.range n).map fun j => hexd (b / 16 ^ (n - 1 - j) % 16) := by
  apply List.ext_getElem?
  intro j
  by_cases hj : j < n
  · rw [hexN_get n b j hj]; simp [hj]
  · rw [List.getElem?_eq_none (by rw [hexN_len]; omega), List.getElem?_eq_none (by simp; omega)]
/-- The bits of a number, one pattern for each NaN. -/
def tbits (a : Nat) : Nat := if feq a a then a else 2143289344
theorem and15 {m : Nat} (h : m < 18446744073709551616) : bitI .and .u64 (m : Int) 15 = ((m % 16 : Nat) : Int) := by
  have e : (BitVec.ofInt 64 (m : Int) &&& BitVec.ofInt 64 15).toNat = m % 16 := by
    rw [BitVec.toNat_and]
    have e1 : (BitVec.ofInt 64 (m : Int)).toNat = m := by
      rw [BitVec.toNat_ofInt]; omega
    have e2 : (BitVec.ofInt 64 15).toNat = 2 ^ 4 - 1 := rfl
    rw [e1, e2, Nat.and_two_pow_sub_one_eq_mod]
  have : bitI .and .u64 (m : Int) 15 = IntKind.u64.wrap ((BitVec.ofInt 64 (m : Int) &&& BitVec.ofInt 64 15).toNat : Int) := rfl
  rw [this, e, IntKind.wrap_u64]
  omega
theorem shr4 {m : Nat} : shrI .u64 (m : Int) 4 = ((m / 16 : Nat) : Int) := by
  have : shrI .u64 (m : Int) 4 = (m : Int).fdiv 16 := rfl
  rw [this, Int.fdiv_eq_ediv_of_nonneg _ (by omega)]
  omega
theorem isPow_cv : CV Tryz.prog 128 [.f (.int .i64 16)] [] (fun v h => v = .f (.bool true) ∧ h = []) := by
  refine cv_of_run 1000 sc128 sb128 8 [.tmp 2] tabOk (by kernel_rfl) Tryz.func128 rfl (by kernel_rfl) Tryz.ntmps128 rfl (by simp) rfl (by simp [bdL, SV.bd]) ?_
  simp (config := { maxSteps := 1000000 }) (disch := omega) only [go_sem, Int.reduceToNat, ↓reduceIte, Nat.reduceLT, Nat.reduceEqDiff, Nat.reduceAdd, Nat.reduceMul, Nat.reduceSub, Nat.reduceBEq, Nat.reduceLeDiff, reduceCtorEq, Nat.reduceLT, ↓Br_true, ↓Br_false, bind, pure, sc128, sb128]
  rfl
theorem dbAt {w : World} (h : GlW w) (j : Nat) (hj : j < 64) : w.cell? ⟨8, j, none⟩ = some (.int .u8 (Int.ofNat (Lib.deBruijn64tab.getD j 0))) := by
  have e := h.db.cell (g := 8) (by kernel_rfl) j (show j < dbTab.length from hj)
  rw [e]
  have : ∀ j, j < 64 → dbTab.getD j 0 = Int.ofNat (Lib.deBruijn64tab.getD j 0) := by decide
  rw [this j hj]
theorem tz_cv : CV Tryz.prog 129 [.f (.int .u64 16)] [] (fun v h => v = .f (.int .i64 4) ∧ h = []) :=
  CV.old0 trivial (enters_of Tryz.func129 (by kernel_rfl) (by kernel_rfl)) fun w β H => (Any7.bits_TrailingZeros Tryz.lays7n27 16 (by omega) w (fun _ j hj => dbAt H.gl.2 j hj)).mono fun e w' ⟨h1, h2⟩ => ⟨h1, h2.symm⟩
theorem dig36 : ∀ m, m < 16 → (#[48, 49, 50, 51, 52, 53, 54, 55, 56, 57, 97, 98, 99, 100, 101, 102, 103, 104, 105, 106, 107, 108, 109, 110, 111, 112, 113, 114, 115, 116, 117, 118, 119, 120, 121, 122] : Array UInt8)[m]?.getD 0 = hexd m := by decide
theorem dig16 : ∀ m, m < 16 → (#[48, 49, 50, 51, 52, 53, 54, 55, 56, 57, 97, 98, 99, 100, 101, 102] : Array UInt8)[m]?.getD 0 = hexd m := by decide
theorem u8_lt (x : UInt8) : 0 ≤ (x.toNat : Int) ∧ (x.toNat : Int) ≤ 255 := by have := x.toNat_lt; omega
theorem byU_u8 (x : UInt8) : byU [.int .u8 x.toNat] = x := by
  simp [byU]
/-- Bytes that are the digits of a number. -/
theorem BY_hex {f : Nat → List FV} {i n u : Nat} (h : ∀ j, j < n → f (i + j) = [.int .u8 (hexd (u / 16 ^ (n - 1 - j) % 16)).toNat]) : BY f i n :=
  fun j hj => ⟨_, h j hj, (u8_lt _).1, (u8_lt _).2⟩
theorem bsOf_hex {f : Nat → List FV} {i n u : Nat} (h : ∀ j, j < n → f (i + j) = [.int .u8 (hexd (u / 16 ^ (n - 1 - j) % 16)).toNat]) : bsOf f i n = bs (hexN u n) := by
  unfold bsOf
  rw [hexN_eq]
  congr 2
  apply List.map_congr_left
  intro j hj
  rw [h j (by simpa using hj), byU_u8]
/-- How many digits a number has. -/
def nd (u : Nat) : Nat := if h : u < 16 then 1 else nd (u / 16) + 1
decreasing_by omega
theorem nd_eq : ∀ k u, (k = 0 ∨ 16 ^ k ≤ u) → u < 16 ^ (k + 1) → nd u = k + 1
  | 0, u, _, h => by rw [nd, dif_pos (by simpa using h)]
  | k + 1, u, h0, h => by
    have h0 : 16 ^ (k + 1) ≤ u := by simpa using h0
    have e1 : 16 ^ k ≤ u / 16 := by rw [Nat.pow_succ] at h0; omega
    have e2 : u / 16 < 16 ^ (k + 1) := by rw [Nat.pow_succ] at h; omega
    have : 1 ≤ 16 ^ k := Nat.one_le_pow _ _ (by omega)
    rw [nd, dif_neg (by omega), nd_eq k (u / 16) (.inr e1) e2]
theorem nd_pos (u : Nat) : 1 ≤ nd u := by
  rw [nd]; split <;> omega
theorem nd_lt : ∀ u, u < 16 ^ nd u := fun u => by
  induction u using Nat.strongRecOn with
  | ind u ih =>
    rw [nd]
    split
    · simpa using by assumption
    · have := ih (u / 16) (by omega)
      rw [Nat.pow_succ]
      omega
theorem nd_le : ∀ k u, u < 16 ^ (k + 1) → nd u ≤ k + 1
  | 0, u, h => by rw [nd, dif_pos (by simpa using h)]; exact Nat.le_refl _
  | k + 1, u, h => by
    rw [nd]
    split
    · omega
    · have := nd_le k (u / 16) (by rw [Nat.pow_succ] at h; omega)
      omega
/-- The digits of a number. -/
def hexT (u : Nat) : List UInt8 := hexN u (nd u)
theorem formatBits_cv (u : Nat) (hu : u < 18446744073709551616) :
    CV Tryz.prog 114 [.f .nils, .f (.int .u64 u), .f (.int .i64 16), .f (.bool false), .f (.bool false)] []
      (fun v h => v = .tup [.f .nils, .f (.str (bs (hexT u)))] ∧ h = []) := by
  have d1 : decide ((16 : Int) < 2) = false := rfl
  have d2 : decide ((16 : Int) = 10) = false := rfl
  have d3 : decide ((36 : Int) < 16) = false := rfl
  refine cv_of_run 1000 sc114 sb114 102 [.tmp 10, .tmp 11] tabOk (by kernel_rfl) Tryz.func114 rfl (by kernel_rfl) Tryz.ntmps114 rfl (by simp) rfl (by simp [bdL, SV.bd]) ?_
  simp (config := { maxSteps := 1000000 }) (disch := omega) only [go_sem, Int.reduceToNat, ↓reduceIte, Nat.reduceLT, Nat.reduceEqDiff, Nat.reduceAdd, Nat.reduceMul, Nat.reduceSub, Nat.reduceBEq, Nat.reduceLeDiff, reduceCtorEq, Nat.reduceLT, ↓Br_true, ↓Br_false, bind, pure, sc114, sb114, d1, d2, d3]
  repeat' (first | (with_reducible refine And.intro (by first | (unfold SOk; kernel_rfl) | (unfold SBOk; kernel_rfl) | (with_reducible assumption) | omega | assumption) ?_) | (with_reducible refine Br_intro (fun hc => ?_) (fun hc => ?_)) | ((have cc := isPow_cv; (first | ((first | refine callR (by rfl) (by rfl) (by rfl) cc ?_ | refine callM (by rfl) (by rfl) (by rfl) cc ?_ | refine callMo (by rfl) (by rfl) (by rfl) cc ?_); clear cc; rintro _ _ ⟨rfl, rfl⟩) | (refine callE (by rfl) cc (by rfl) ?_; clear cc))); simp (config := { maxSteps := 1000000 }) (disch := omega) only [go_sem, Int.reduceToNat, ↓reduceIte, Nat.reduceLT, Nat.reduceEqDiff, Nat.reduceAdd, Nat.reduceMul, Nat.reduceSub, Nat.reduceBEq, Nat.reduceLeDiff, reduceCtorEq, Nat.reduceLT, ↓Br_true, ↓Br_false, bind, pure, sc114, sb114]) | ((have cc := tz_cv; (first | ((first | refine callR (by rfl) (by rfl) (by rfl) cc ?_ | refine callM (by rfl) (by rfl) (by rfl) cc ?_ | refine callMo (by rfl) (by rfl) (by rfl) cc ?_); clear cc; rintro _ _ ⟨rfl, rfl⟩) | (refine callE (by rfl) cc (by rfl) ?_; clear cc))); simp (config := { maxSteps := 1000000 }) (disch := omega) only [go_sem, Int.reduceToNat, ↓reduceIte, Nat.reduceLT, Nat.reduceEqDiff, Nat.reduceAdd, Nat.reduceMul, Nat.reduceSub, Nat.reduceBEq, Nat.reduceLeDiff, reduceCtorEq, Nat.reduceLT, ↓Br_true, ↓Br_false, bind, pure, sc114, sb114]) | ((with_reducible show WidN _ _ _ _ _ _ _ _); (first | refine widL (by decide) (by with_reducible assumption) ?_ | refine widL (by decide) (FWok_nn (by with_reducible assumption)) ?_ | refine widN (by decide) (fun c hc => ?_)); simp (config := { maxSteps := 1000000 }) (disch := omega) only [go_sem, Int.reduceToNat, ↓reduceIte, Nat.reduceLT, Nat.reduceEqDiff, Nat.reduceAdd, Nat.reduceMul, Nat.reduceSub, Nat.reduceBEq, Nat.reduceLeDiff, reduceCtorEq, Nat.reduceLT, ↓Br_true, ↓Br_false, bind, pure, sc114, sb114]))
  refine ⟨(Nat × (Nat → List FV)), fun s => (s.1 ≤ 15 ∧ (s.1 = 0 ∨ 16 ^ s.1 ≤ u)) ∧ (s.2 (65 - (s.1 + 1)) = [.int .u8 0] ∧ (∀ j, j < 65 - s.1 → s.2 j = [.int .u8 0])) ∧ ∀ j, 65 - s.1 ≤ j → j < 65 → s.2 j = [.int .u8 (hexd (u / 16 ^ (64 - j) % 16)).toNat], fun s => 15 - s.1, fun s => [(0, .f .nils), (1, .f (.int .u64 (u / 16 ^ s.1 : Nat))), (2, .f (.int .i64 16)), (3, .f (.bool false)), (4, .f (.bool false)), (10, .f .nils), (11, .f (.str (bs []))), (12, .ptr 0 0 0), (13, .f (.int .i64 ((65 - s.1 : Nat) : Int))), (14, .f (.int .u64 4)), (15, .f (.int .u64 16)), (16, .f (.int .u64 (16 - 1)))], fun s => [.rows 65 65 1 s.2 true], (0, fun _ => [.int .u8 0]), (by intro _; simp), ?_, (by (try refine Or.inl ?_); simp [Cov, covE, covH, cb_dead, cb_lit, cb_rows, cb_cells, cd_lit, cd_rows, cd_cells, cd_dead, covRow, look, SV.known, SV.bd, bdL, Nat.pow_zero, Nat.div_one] <;> omega), ?_⟩
  · exact ⟨⟨by omega, .inl rfl⟩, ⟨rfl, fun j _ => rfl⟩, fun j h1 h2 => by omega⟩
  · rintro ⟨k, g⟩ ⟨⟨hk, hk2⟩, ⟨hg0, hgz⟩, hg⟩
    simp only at hk hk2 hg0 hgz hg
    have hlt : u / 16 ^ k < 18446744073709551616 := Nat.lt_of_le_of_lt (Nat.div_le_self _ _) hu
    have e3 : ((65 - k : Nat) : Int) - 1 = ((65 - (k + 1) : Nat) : Int) := by omega
    by_cases h16 : 16 ≤ u / 16 ^ k
    · have hd : decide ((16 : Int) ≤ ((u / 16 ^ k : Nat) : Int)) = true := decide_eq_true (by omega)
      have e1 : bitI .and .u64 ((u / 16 ^ k : Nat) : Int) (16 - 1) = ((u / 16 ^ k % 16 : Nat) : Int) := and15 hlt
      have e2 := shr4 (m := u / 16 ^ k)
      have e5 := dig36 (u / 16 ^ k % 16) (Nat.mod_lt _ (by omega))
      have hk14 : k ≤ 14 := by
        rcases Nat.lt_or_ge k 15 with h | h
        · omega
        · obtain rfl : k = 15 := by omega
          omega
      rw [pow_div] at e2
      simp (config := { maxSteps := 1000000 }) (disch := omega) only [go_sem, Int.reduceToNat, ↓reduceIte, Nat.reduceLT, Nat.reduceEqDiff, Nat.reduceAdd, Nat.reduceMul, Nat.reduceSub, Nat.reduceBEq, Nat.reduceLeDiff, reduceCtorEq, Nat.reduceLT, ↓Br_true, ↓Br_false, bind, pure, sc114, sb114, hd, e1, e2, e3, e5]
      refine ⟨by omega, by omega, by omega, by omega, (k + 1, updR g (65 - (k + 1)) 0 (.int .u8 (hexd (u / 16 ^ k % 16)).toNat)), ⟨⟨by omega, .inr ?_⟩, ⟨?_, fun j hj => ?_⟩, fun j h1 h2 => ?_⟩, by omega, by (try refine Or.inl ?_); simp [Cov, covE, covH, cb_dead, cb_lit, cb_rows, cb_cells, cd_lit, cd_rows, cd_cells, cd_dead, covRow, look, SV.known, SV.bd, bdL] <;> omega⟩
      · simp only; rw [Nat.pow_succ, Nat.mul_comm]; exact (Nat.le_div_iff_mul_le (Nat.pow_pos (show 0 < 16 by omega))).1 h16
      · simp only [updR]; rw [if_neg (by omega)]; exact hgz _ (by omega)
      · simp only [updR]; rw [if_neg (by omega)]; exact hgz _ (by omega)
      simp only [updR]
      split
      · rename_i hj
        rw [hj, hg0, show 64 - (65 - (k + 1)) = k by omega]
        rfl
      · exact hg j (by omega) h2
    · have hd : decide ((16 : Int) ≤ ((u / 16 ^ k : Nat) : Int)) = false := decide_eq_false (by omega)
      have e5 := dig36 (u / 16 ^ k) (by omega)
      have e4 : (65 = 65 - (k + 1)) = False := eq_false (by omega)
      have e6 : 65 - (65 - (k + 1)) = k + 1 := by omega
      simp (config := { maxSteps := 1000000 }) (disch := omega) only [go_sem, Int.reduceToNat, ↓reduceIte, Nat.reduceLT, Nat.reduceEqDiff, Nat.reduceAdd, Nat.reduceMul, Nat.reduceSub, Nat.reduceBEq, Nat.reduceLeDiff, reduceCtorEq, Nat.reduceLT, ↓Br_true, ↓Br_false, bind, pure, sc114, sb114, hd, e3, e5, e4, e6]
      have hf : ∀ j, j < k + 1 → updR g (65 - (k + 1)) 0 (.int .u8 (hexd (u / 16 ^ k)).toNat) (65 - (k + 1) + j) = [.int .u8 (hexd (u / 16 ^ (k + 1 - 1 - j) % 16)).toNat] := fun j hj => by
        simp only [updR]
        split
        · obtain rfl : j = 0 := by omega
          rw [Nat.add_zero, hg0, Nat.add_sub_cancel, Nat.sub_zero, Nat.mod_eq_of_lt (show u / 16 ^ k < 16 by omega)]
          rfl
        · rw [hg _ (by omega) (by omega), show 64 - (65 - (k + 1) + j) = k + 1 - 1 - j by omega]
      have hu' : u < 16 ^ (k + 1) := by
        have := (Nat.div_lt_iff_lt_mul (k := 16 ^ k) (Nat.pow_pos (show 0 < 16 by omega))).1 (show u / 16 ^ k < 16 by omega)
        rw [Nat.pow_succ, Nat.mul_comm]
        exact this
      refine ⟨⟨Int.natCast_nonneg _, Int.ofNat_lt.2 (by omega)⟩, by omega, by omega, by omega, ⟨by omega, BY_hex hf⟩, ?_⟩
      rw [bsOf_hex hf, hexT, nd_eq k u hk2 hu']
theorem intFormatUint_cv (u : Nat) (hu : u < 18446744073709551616) :
    CV Tryz.prog 92 [.f (.int .u64 u), .f (.int .i64 16)] []
      (fun v h => v = .f (.str (bs (hexT u))) ∧ h = []) := by
  have d2 : decide ((16 : Int) = 10) = false := rfl
  have c := formatBits_cv u hu
  refine cv_of_run 1000 sc92 sb92 32 [.tmp 4] tabOk (by kernel_rfl) Tryz.func92 rfl (by kernel_rfl) Tryz.ntmps92 rfl (by simp) rfl (by simp [bdL, SV.bd]) ?_
  simp (config := { maxSteps := 1000000 }) (disch := omega) only [go_sem, Int.reduceToNat, ↓reduceIte, Nat.reduceLT, Nat.reduceEqDiff, Nat.reduceAdd, Nat.reduceMul, Nat.reduceSub, Nat.reduceBEq, Nat.reduceLeDiff, reduceCtorEq, Nat.reduceLT, ↓Br_true, ↓Br_false, bind, pure, sc92, sb92, d2]
  repeat' (first | (with_reducible refine And.intro (by first | (unfold SOk; kernel_rfl) | (unfold SBOk; kernel_rfl) | (with_reducible assumption) | omega | assumption) ?_) | (with_reducible refine Br_intro (fun hc => ?_) (fun hc => ?_)) | ((have cc := c; (first | ((first | refine callR (by rfl) (by rfl) (by rfl) cc ?_ | refine callM (by rfl) (by rfl) (by rfl) cc ?_ | refine callMo (by rfl) (by rfl) (by rfl) cc ?_); clear cc; rintro _ _ ⟨rfl, rfl⟩) | (refine callE (by rfl) cc (by rfl) ?_; clear cc))); simp (config := { maxSteps := 1000000 }) (disch := omega) only [go_sem, Int.reduceToNat, ↓reduceIte, Nat.reduceLT, Nat.reduceEqDiff, Nat.reduceAdd, Nat.reduceMul, Nat.reduceSub, Nat.reduceBEq, Nat.reduceLeDiff, reduceCtorEq, Nat.reduceLT, ↓Br_true, ↓Br_false, bind, pure, sc92, sb92, d2]) | ((with_reducible show WidN _ _ _ _ _ _ _ _); (first | refine widL (by decide) (by with_reducible assumption) ?_ | refine widL (by decide) (FWok_nn (by with_reducible assumption)) ?_ | refine widN (by decide) (fun c hc => ?_)); simp (config := { maxSteps := 1000000 }) (disch := omega) only [go_sem, Int.reduceToNat, ↓reduceIte, Nat.reduceLT, Nat.reduceEqDiff, Nat.reduceAdd, Nat.reduceMul, Nat.reduceSub, Nat.reduceBEq, Nat.reduceLeDiff, reduceCtorEq, Nat.reduceLT, ↓Br_true, ↓Br_false, bind, pure, sc92, sb92, d2]))
theorem FormatUint_cv (u : Nat) (hu : u < 18446744073709551616) :
    CV Tryz.prog 76 [.f (.int .u64 u), .f (.int .i64 16)] [] (fun v h => v = .f (.str (bs (hexT u))) ∧ h = []) := by
  refine cv_of_run 1000 sc76 sb76 8 [.tmp 4] tabOk (by kernel_rfl) Tryz.func76 rfl (by kernel_rfl) Tryz.ntmps76 rfl (by simp) rfl (by simp [bdL, SV.bd]) ?_
  simp (config := { maxSteps := 1000000 }) (disch := omega) only [go_sem, Int.reduceToNat, ↓reduceIte, Nat.reduceLT, Nat.reduceEqDiff, Nat.reduceAdd, Nat.reduceMul, Nat.reduceSub, Nat.reduceBEq, Nat.reduceLeDiff, reduceCtorEq, Nat.reduceLT, ↓Br_true, ↓Br_false, bind, pure, sc76, sb76]
  repeat' (first | (with_reducible refine And.intro (by first | (unfold SOk; kernel_rfl) | (unfold SBOk; kernel_rfl) | (with_reducible assumption) | omega | assumption) ?_) | (with_reducible refine Br_intro (fun hc => ?_) (fun hc => ?_)) | ((have cc := intFormatUint_cv u hu; (first | ((first | refine callR (by rfl) (by rfl) (by rfl) cc ?_ | refine callM (by rfl) (by rfl) (by rfl) cc ?_ | refine callMo (by rfl) (by rfl) (by rfl) cc ?_); clear cc; rintro _ _ ⟨rfl, rfl⟩) | (refine callE (by rfl) cc (by rfl) ?_; clear cc))); simp (config := { maxSteps := 1000000 }) (disch := omega) only [go_sem, Int.reduceToNat, ↓reduceIte, Nat.reduceLT, Nat.reduceEqDiff, Nat.reduceAdd, Nat.reduceMul, Nat.reduceSub, Nat.reduceBEq, Nat.reduceLeDiff, reduceCtorEq, Nat.reduceLT, ↓Br_true, ↓Br_false, bind, pure, sc76, sb76]) | ((with_reducible show WidN _ _ _ _ _ _ _ _); (first | refine widL (by decide) (by with_reducible assumption) ?_ | refine widL (by decide) (FWok_nn (by with_reducible assumption)) ?_ | refine widN (by decide) (fun c hc => ?_)); simp (config := { maxSteps := 1000000 }) (disch := omega) only [go_sem, Int.reduceToNat, ↓reduceIte, Nat.reduceLT, Nat.reduceEqDiff, Nat.reduceAdd, Nat.reduceMul, Nat.reduceSub, Nat.reduceBEq, Nat.reduceLeDiff, reduceCtorEq, Nat.reduceLT, ↓Br_true, ↓Br_false, bind, pure, sc76, sb76]))
theorem hexT_8 {b : Nat} (h : b < 4294967296) : Lib.repeatL [48] (8 - nd b) ++ hexT b = hexN b 8 := by
  have hn : nd b ≤ 8 := nd_le 7 b (by omega)
  rw [rep48, hexT, ← hexN_pad (8 - nd b) (nd b) b (nd_lt b), Nat.sub_add_cancel hn]
theorem hexT_len (b : Nat) : (hexT b).length = nd b := hexN_len _ _
theorem tbits_lt {a : Nat} (h : a < 4294967296) : tbits a < 4294967296 := by unfold tbits; split <;> omega
theorem NumberText_cv (a : Nat) (ha : a < 4294967296) :
    CV Tryz.prog 41 [.f (.flt .f32 a)] [] (fun v h => v = .f (.str (bs (hexN (tbits a) 8))) ∧ h = []) := by
  have ht := tbits_lt ha
  have hn : nd (tbits a) ≤ 8 := nd_le 7 _ (by omega)
  have hr := Repeat_cv [48] (8 - nd (tbits a)) (by omega) (by simp)
  have hu := FormatUint_cv (tbits a) (by omega)
  have hl := hexT_len (tbits a)
  have hx := hexT_8 ht
  have e1 : (8 : Int) - (nd (tbits a) : Int) = ((8 - nd (tbits a) : Nat) : Int) := by omega
  cases hf : feq a a
  all_goals simp only [tbits, hf, if_true, if_false, Bool.false_eq_true] at ht hn hr hu hl hx e1 ⊢
  · refine cv_of_run 1000 sc41 sb41 19 [.tmp 2] tabOk (by kernel_rfl) Tryz.func41 rfl (by kernel_rfl) Tryz.ntmps41 rfl (by simp) rfl (by simp [bdL, SV.bd]) ?_
    simp (config := { maxSteps := 1000000 }) (disch := omega) only [go_sem, Int.reduceToNat, ↓reduceIte, Nat.reduceLT, Nat.reduceEqDiff, Nat.reduceAdd, Nat.reduceMul, Nat.reduceSub, Nat.reduceBEq, Nat.reduceLeDiff, reduceCtorEq, Nat.reduceLT, ↓Br_true, ↓Br_false, bind, pure, sc41, sb41, hf]
    refine callX (.f (.int .u32 a)) rfl trivial (fun β w => f32bits_run a w) ?_
    simp (config := { maxSteps := 1000000 }) (disch := omega) only [go_sem, Int.reduceToNat, ↓reduceIte, Nat.reduceLT, Nat.reduceEqDiff, Nat.reduceAdd, Nat.reduceMul, Nat.reduceSub, Nat.reduceBEq, Nat.reduceLeDiff, reduceCtorEq, Nat.reduceLT, ↓Br_true, ↓Br_false, bind, pure, sc41, sb41, hf]
    repeat' (first | (with_reducible refine And.intro (by first | (unfold SOk; kernel_rfl) | (unfold SBOk; kernel_rfl) | (with_reducible assumption) | omega | assumption) ?_) | (with_reducible refine Br_intro (fun hc => ?_) (fun hc => ?_)) | ((have cc := hu; (first | ((first | refine callR (by rfl) (by rfl) (by rfl) cc ?_ | refine callM (by rfl) (by rfl) (by rfl) cc ?_ | refine callMo (by rfl) (by rfl) (by rfl) cc ?_); clear cc; rintro _ _ ⟨rfl, rfl⟩) | (refine callE (by rfl) cc (by rfl) ?_; clear cc))); simp (config := { maxSteps := 1000000 }) (disch := omega) only [go_sem, Int.reduceToNat, ↓reduceIte, Nat.reduceLT, Nat.reduceEqDiff, Nat.reduceAdd, Nat.reduceMul, Nat.reduceSub, Nat.reduceBEq, Nat.reduceLeDiff, reduceCtorEq, Nat.reduceLT, ↓Br_true, ↓Br_false, bind, pure, sc41, sb41, hf, hl, e1]) | ((have cc := hr; (first | ((first | refine callR (by rfl) (by rfl) (by rfl) cc ?_ | refine callM (by rfl) (by rfl) (by rfl) cc ?_ | refine callMo (by rfl) (by rfl) (by rfl) cc ?_); clear cc; rintro _ _ ⟨rfl, rfl⟩) | (refine callE (by rfl) cc (by rfl) ?_; clear cc))); simp (config := { maxSteps := 1000000 }) (disch := omega) only [go_sem, Int.reduceToNat, ↓reduceIte, Nat.reduceLT, Nat.reduceEqDiff, Nat.reduceAdd, Nat.reduceMul, Nat.reduceSub, Nat.reduceBEq, Nat.reduceLeDiff, reduceCtorEq, Nat.reduceLT, ↓Br_true, ↓Br_false, bind, pure, sc41, sb41, hf, hl, e1]) | ((with_reducible show WidN _ _ _ _ _ _ _ _); (first | refine widL (by decide) (by with_reducible assumption) ?_ | refine widL (by decide) (FWok_nn (by with_reducible assumption)) ?_ | refine widN (by decide) (fun c hc => ?_)); simp (config := { maxSteps := 1000000 }) (disch := omega) only [go_sem, Int.reduceToNat, ↓reduceIte, Nat.reduceLT, Nat.reduceEqDiff, Nat.reduceAdd, Nat.reduceMul, Nat.reduceSub, Nat.reduceBEq, Nat.reduceLeDiff, reduceCtorEq, Nat.reduceLT, ↓Br_true, ↓Br_false, bind, pure, sc41, sb41, hf, hl, e1]))
    exact ⟨by rw [Lib.repeatL_length]; simp; omega, by rw [bs_add, hx]⟩
  · refine cv_of_run 1000 sc41 sb41 19 [.tmp 2] tabOk (by kernel_rfl) Tryz.func41 rfl (by kernel_rfl) Tryz.ntmps41 rfl (by simp) rfl (by simp [bdL, SV.bd]) ?_
    simp (config := { maxSteps := 1000000 }) (disch := omega) only [go_sem, Int.reduceToNat, ↓reduceIte, Nat.reduceLT, Nat.reduceEqDiff, Nat.reduceAdd, Nat.reduceMul, Nat.reduceSub, Nat.reduceBEq, Nat.reduceLeDiff, reduceCtorEq, Nat.reduceLT, ↓Br_true, ↓Br_false, bind, pure, sc41, sb41, hf]
    refine callX (.f (.int .u32 a)) rfl trivial (fun β w => f32bits_run a w) ?_
    simp (config := { maxSteps := 1000000 }) (disch := omega) only [go_sem, Int.reduceToNat, ↓reduceIte, Nat.reduceLT, Nat.reduceEqDiff, Nat.reduceAdd, Nat.reduceMul, Nat.reduceSub, Nat.reduceBEq, Nat.reduceLeDiff, reduceCtorEq, Nat.reduceLT, ↓Br_true, ↓Br_false, bind, pure, sc41, sb41, hf]
    repeat' (first | (with_reducible refine And.intro (by first | (unfold SOk; kernel_rfl) | (unfold SBOk; kernel_rfl) | (with_reducible assumption) | omega | assumption) ?_) | (with_reducible refine Br_intro (fun hc => ?_) (fun hc => ?_)) | ((have cc := hu; (first | ((first | refine callR (by rfl) (by rfl) (by rfl) cc ?_ | refine callM (by rfl) (by rfl) (by rfl) cc ?_ | refine callMo (by rfl) (by rfl) (by rfl) cc ?_); clear cc; rintro _ _ ⟨rfl, rfl⟩) | (refine callE (by rfl) cc (by rfl) ?_; clear cc))); simp (config := { maxSteps := 1000000 }) (disch := omega) only [go_sem, Int.reduceToNat, ↓reduceIte, Nat.reduceLT, Nat.reduceEqDiff, Nat.reduceAdd, Nat.reduceMul, Nat.reduceSub, Nat.reduceBEq, Nat.reduceLeDiff, reduceCtorEq, Nat.reduceLT, ↓Br_true, ↓Br_false, bind, pure, sc41, sb41, hf, hl, e1]) | ((have cc := hr; (first | ((first | refine callR (by rfl) (by rfl) (by rfl) cc ?_ | refine callM (by rfl) (by rfl) (by rfl) cc ?_ | refine callMo (by rfl) (by rfl) (by rfl) cc ?_); clear cc; rintro _ _ ⟨rfl, rfl⟩) | (refine callE (by rfl) cc (by rfl) ?_; clear cc))); simp (config := { maxSteps := 1000000 }) (disch := omega) only [go_sem, Int.reduceToNat, ↓reduceIte, Nat.reduceLT, Nat.reduceEqDiff, Nat.reduceAdd, Nat.reduceMul, Nat.reduceSub, Nat.reduceBEq, Nat.reduceLeDiff, reduceCtorEq, Nat.reduceLT, ↓Br_true, ↓Br_false, bind, pure, sc41, sb41, hf, hl, e1]) | ((with_reducible show WidN _ _ _ _ _ _ _ _); (first | refine widL (by decide) (by with_reducible assumption) ?_ | refine widL (by decide) (FWok_nn (by with_reducible assumption)) ?_ | refine widN (by decide) (fun c hc => ?_)); simp (config := { maxSteps := 1000000 }) (disch := omega) only [go_sem, Int.reduceToNat, ↓reduceIte, Nat.reduceLT, Nat.reduceEqDiff, Nat.reduceAdd, Nat.reduceMul, Nat.reduceSub, Nat.reduceBEq, Nat.reduceLeDiff, reduceCtorEq, Nat.reduceLT, ↓Br_true, ↓Br_false, bind, pure, sc41, sb41, hf, hl, e1]))
    exact ⟨by rw [Lib.repeatL_length]; simp; omega, by rw [bs_add, hx]⟩
end Go.Proofs.YtjhddlkfkicpaaaGreatDoor.Vx
