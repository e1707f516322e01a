/- Whole numbers as float32, and their quotients. -/
import Derived.Test.YtjhddlkfkicpaaaGreatDoorVs
import Derived.Test.YtjhddlkfkicpaaaGreatDoorVt
namespace Go.Proofs.YtjhddlkfkicpaaaGreatDoor.Vx
open Go Go.RowKit Fl
set_option linter.unusedSimpArgs false
set_option linter.unusedVariables false

theorem ofInt_key (n : Int) : key (fofInt n) = KR 0 n ∧ nn (fofInt n) := by
  have e : fofInt n = S.write (.number (decide (n < 0)) n.natAbs 0) := rfl
  rw [e]
  refine ⟨?_, write_nn _ _ _⟩
  rw [write_key]
  congr 1
  by_cases h : n < 0
  · simp only [h, decide_true, sg, if_true]; omega
  · simp only [h, decide_false, sg, Bool.false_eq_true, if_false]; omega
theorem ofInt_mono {a b : Int} (h : a ≤ b) : key (fofInt a) ≤ key (fofInt b) := by
  rw [(ofInt_key a).1, (ofInt_key b).1]; exact KR_mono 0 h
theorem ofInt_F0 {n : Int} (h0 : 0 ≤ n) (h1 : n ≤ 16777216) : F0 (fofInt n) := by
  have a := ofInt_mono h0
  have b := ofInt_mono h1
  have z : key (fofInt 0) = 0 := by decide
  have t : key (fofInt 16777216) < 2139095040 := by decide
  exact ⟨fin_of_key (ofInt_key n).2 (by omega) (by omega), by omega⟩
theorem quo_ok {n m : Int} {d : Nat} {T : Int} (h0 : 0 ≤ n) (h1 : n ≤ m) (hm : m ≤ 16777216) (hd : fin d) (hp : 0 < key d) (hT : key (fdiv (fofInt m) d) ≤ T) (hi : T < 2139095040) :
    DivOk (fofInt n) d ∧ F0 (fdiv (fofInt n) d) ∧ key (fdiv (fofInt n) d) ≤ T := by
  have a := ofInt_F0 h0 (by omega)
  have b := ofInt_F0 (n := m) (by omega) hm
  obtain ⟨c1, c2⟩ := div_F0 a hd hp
  have k := div_mono a.1 b.1 hd hp (ofInt_mono h1)
  exact ⟨c1, ⟨fin_of_key c2.1 (by omega) (by have := c2.2; omega), c2.2⟩, by omega⟩
/-- A part: from 0 to 1. -/
def Prt (x : Nat) : Prop := F0 x ∧ key x ≤ key 1065353216
theorem part16 {n : Int} (h0 : 0 ≤ n) (h1 : n < 17) : DivOk (fofInt n) 1098907648 ∧ Prt (fdiv (fofInt n) 1098907648) := by
  obtain ⟨a, b, c⟩ := quo_ok (m := 16) (d := 1098907648) (T := key 1065353216) h0 (by omega) (by omega) (by decide) (by decide) (by decide) (by decide)
  exact ⟨a, b, c⟩
theorem part1000 {n : Int} (h0 : 0 ≤ n) (h1 : n < 1001) : DivOk (fofInt n) 1148846080 ∧ Prt (fdiv (fofInt n) 1148846080) := by
  obtain ⟨a, b, c⟩ := quo_ok (m := 1000) (d := 1148846080) (T := key 1065353216) h0 (by omega) (by omega) (by decide) (by decide) (by decide) (by decide)
  exact ⟨a, b, c⟩
theorem part24 {n : Int} (h0 : 0 ≤ n) (h1 : n ≤ 16777216) : DivOk (fofInt n) 1266679808 ∧ Prt (fdiv (fofInt n) 1266679808) := by
  obtain ⟨a, b, c⟩ := quo_ok (m := 16777216) (d := 1266679808) (T := key 1065353216) h0 h1 (by omega) (by decide) (by decide) (by decide) (by decide)
  exact ⟨a, b, c⟩
theorem raw24 (x y : Int) : 0 ≤ shrI .u32 (bitI .or .u32 x y) 8 ∧ shrI .u32 (bitI .or .u32 x y) 8 ≤ 16777216 := by
  have h : (BitVec.ofInt 32 x ||| BitVec.ofInt 32 y).toNat < 4294967296 := (BitVec.ofInt 32 x ||| BitVec.ofInt 32 y).isLt
  have e : bitI .or .u32 x y = IntKind.u32.wrap ((BitVec.ofInt 32 x ||| BitVec.ofInt 32 y).toNat : Int) := rfl
  rw [e]
  generalize (BitVec.ofInt 32 x ||| BitVec.ofInt 32 y).toNat = z at *
  have w : IntKind.u32.wrap (z : Int) = z := wr_u32 _ (by omega) (by omega)
  rw [w]
  have e2 : (2 : Int) ^ min (8 : Int).toNat IntKind.u32.bits = 256 := by decide
  unfold shrI
  rw [e2, Int.fdiv_eq_ediv_of_nonneg _ (by omega)]
  omega
theorem tm_ok {b k : Int} (hb : 0 ≤ b) (hk : 0 < k) : 0 ≤ b.tmod k ∧ b.tmod k < k := ⟨Int.tmod_nonneg k hb, Int.tmod_lt_of_pos b hk⟩
end Go.Proofs.YtjhddlkfkicpaaaGreatDoor.Vx

namespace Go.Proofs.YtjhddlkfkicpaaaGreatDoor.Vx
open Go Go.RowKit Fl
set_option maxRecDepth 100000
set_option maxHeartbeats 2000000
set_option linter.unusedSimpArgs false
set_option linter.unusedVariables false

def BytesAt (n : Nat) (f : Nat → List FV) : Prop := ∀ i, i < n → ∃ c : Int, f i = [.int .u8 c] ∧ 0 ≤ c ∧ c ≤ 255
abbrev srcS (n cap : Nat) (a sd : Int) : Blk := .lit [.slc 1 0 n cap, .f (.int .i64 a), .f (.int .u64 sd)] true
abbrev srcN (a sd : Int) : Blk := .lit [.f .nils, .f (.int .i64 a), .f (.int .u64 sd)] true
theorem and255 (x : Int) : 0 ≤ bitI .and .u64 x 255 ∧ bitI .and .u64 x 255 ≤ 255 := by
  have h : (BitVec.ofInt 64 x &&& BitVec.ofInt 64 255).toNat ≤ 255 := by
    rw [BitVec.toNat_and]
    exact Nat.le_trans Nat.and_le_right (by decide)
  have e : bitI .and .u64 x 255 = IntKind.u64.wrap ((BitVec.ofInt 64 x &&& BitVec.ofInt 64 255).toNat : Int) := rfl
  rw [e]
  generalize (BitVec.ofInt 64 x &&& BitVec.ofInt 64 255).toNat = y at *
  have : IntKind.u64.wrap (y : Int) = y := by
    exact wr_u64 _ (by omega) (by omega)
  omega
theorem wr255 (x : Int) : IntKind.i64.wrap (bitI .and .u64 x 255) = bitI .and .u64 x 255 := wr_i64 _ (by have := and255 x; omega) (by have := and255 x; omega)

theorem nextS_cv (n cap : Nat) (f : Nat → List FV) (hB : BytesAt n f) (hcap : n ≤ cap) (hn : n ≤ 4096) (a sd : Int) (ha : 0 ≤ a ∧ a ≤ 1048576) :
    CV Tryz.prog 81 [.ptr 0 0 0] [srcS n cap a sd, .rows n cap 1 f false] (fun v h => ∃ b s' : Int, v = .f (.int .i64 b) ∧ (0 ≤ b ∧ b ≤ 255) ∧ h = [srcS n cap (a + 1) s', .rows n cap 1 f false]) := by
  by_cases hlt : a < n
  · obtain ⟨c, hc, hc0⟩ := hB a.toNat (by omega)
    have hd : decide (a < (n : Int)) = true := decide_eq_true hlt
    have hd2 : decide (a + 1 ≤ (n : Int)) = true := decide_eq_true (by omega)
    have hcN : a.toNat < n := by omega
    refine cv_of_run 1000 sc81 sb81 62 [.tmp 2] tabOk (by kernel_rfl) Tryz.func81 rfl (by kernel_rfl) Tryz.ntmps81 rfl (by simp) rfl (by simp [bdL, SV.bd]) ?_
    simp (config := { maxSteps := 1000000 }) (disch := omega) only [go_sem, Int.reduceToNat, ↓reduceIte, Nat.reduceLT, Nat.reduceEqDiff, Nat.reduceAdd, Nat.reduceMul, Nat.reduceSub, Nat.reduceBEq, Nat.reduceLeDiff, reduceCtorEq, Nat.reduceLT, ↓Br_true, ↓Br_false, bind, pure, sc81, sb81, hd, hc, hd2]
    repeat' (first | (with_reducible refine And.intro (by first | (unfold SOk; kernel_rfl) | (unfold SBOk; kernel_rfl) | (with_reducible assumption) | omega | assumption) ?_) | (with_reducible refine Br_intro (fun hc => ?_) (fun hc => ?_)) | ((with_reducible show WidN _ _ _ _ _ _ _ _); (first | refine widL (by decide) (by with_reducible assumption) ?_ | refine widL (by decide) (FWok_nn (by with_reducible assumption)) ?_ | refine widN (by decide) (fun c hc => ?_)); simp (config := { maxSteps := 1000000 }) (disch := omega) only [go_sem, Int.reduceToNat, ↓reduceIte, Nat.reduceLT, Nat.reduceEqDiff, Nat.reduceAdd, Nat.reduceMul, Nat.reduceSub, Nat.reduceBEq, Nat.reduceLeDiff, reduceCtorEq, Nat.reduceLT, ↓Br_true, ↓Br_false, bind, pure, sc81, sb81, hd, hc, hd2]))
    exact ⟨_, _, rfl, hc0, rfl⟩
  · have hd : decide (a < (n : Int)) = false := decide_eq_false hlt
    have hd2 : decide (a + 1 ≤ (n : Int)) = false := decide_eq_false (by omega)
    refine cv_of_run 1000 sc81 sb81 62 [.tmp 2] tabOk (by kernel_rfl) Tryz.func81 rfl (by kernel_rfl) Tryz.ntmps81 rfl (by simp) rfl (by simp [bdL, SV.bd]) ?_
    simp (config := { maxSteps := 1000000 }) (disch := omega) only [go_sem, Int.reduceToNat, ↓reduceIte, Nat.reduceLT, Nat.reduceEqDiff, Nat.reduceAdd, Nat.reduceMul, Nat.reduceSub, Nat.reduceBEq, Nat.reduceLeDiff, reduceCtorEq, Nat.reduceLT, ↓Br_true, ↓Br_false, bind, pure, sc81, sb81, hd, hd2, wr255]
    repeat' (first | (with_reducible refine And.intro (by first | (unfold SOk; kernel_rfl) | (unfold SBOk; kernel_rfl) | (with_reducible assumption) | omega | assumption) ?_) | (with_reducible refine Br_intro (fun hc => ?_) (fun hc => ?_)) | ((with_reducible show WidN _ _ _ _ _ _ _ _); (first | refine widL (by decide) (by with_reducible assumption) ?_ | refine widL (by decide) (FWok_nn (by with_reducible assumption)) ?_ | refine widN (by decide) (fun c hc => ?_)); simp (config := { maxSteps := 1000000 }) (disch := omega) only [go_sem, Int.reduceToNat, ↓reduceIte, Nat.reduceLT, Nat.reduceEqDiff, Nat.reduceAdd, Nat.reduceMul, Nat.reduceSub, Nat.reduceBEq, Nat.reduceLeDiff, reduceCtorEq, Nat.reduceLT, ↓Br_true, ↓Br_false, bind, pure, sc81, sb81, hd, hd2, wr255]))
    exact ⟨_, _, rfl, and255 _, rfl⟩
theorem pickS_cv (n cap : Nat) (f : Nat → List FV) (hB : BytesAt n f) (hcap : n ≤ cap) (hn : n ≤ 4096) (a sd k : Int) (ha : 0 ≤ a ∧ a ≤ 1048570) (hk : 1 ≤ k ∧ k ≤ 65536) :
    CV Tryz.prog 59 [.ptr 0 0 0, .f (.int .i64 k)] [srcS n cap a sd, .rows n cap 1 f false] (fun v h => ∃ b a' s' : Int, v = .f (.int .i64 b) ∧ (0 ≤ b ∧ b < k) ∧ (a ≤ a' ∧ a' ≤ a + 2) ∧ h = [srcS n cap a' s', .rows n cap 1 f false]) := by
  by_cases h1 : k ≤ 1
  · have hd : decide (k ≤ 1) = true := decide_eq_true h1
    refine cv_of_run 1000 sc59 sb59 20 [.tmp 4] tabOk (by kernel_rfl) Tryz.func59 rfl (by kernel_rfl) Tryz.ntmps59 rfl (by simp) rfl (by simp [bdL, SV.bd]) ?_
    simp (config := { maxSteps := 1000000 }) (disch := omega) only [go_sem, Int.reduceToNat, ↓reduceIte, Nat.reduceLT, Nat.reduceEqDiff, Nat.reduceAdd, Nat.reduceMul, Nat.reduceSub, Nat.reduceBEq, Nat.reduceLeDiff, reduceCtorEq, Nat.reduceLT, ↓Br_true, ↓Br_false, bind, pure, sc59, sb59, hd]
    exact ⟨0, a, sd, rfl, by omega, by omega, rfl⟩
  · have hd : decide (k ≤ 1) = false := decide_eq_false h1
    refine cv_of_run 1000 sc59 sb59 20 [.tmp 4] tabOk (by kernel_rfl) Tryz.func59 rfl (by kernel_rfl) Tryz.ntmps59 rfl (by simp) rfl (by simp [bdL, SV.bd]) ?_
    simp (config := { maxSteps := 1000000 }) (disch := omega) only [go_sem, Int.reduceToNat, ↓reduceIte, Nat.reduceLT, Nat.reduceEqDiff, Nat.reduceAdd, Nat.reduceMul, Nat.reduceSub, Nat.reduceBEq, Nat.reduceLeDiff, reduceCtorEq, Nat.reduceLT, ↓Br_true, ↓Br_false, bind, pure, sc59, sb59, hd]
    repeat (with_reducible refine And.intro (by first | omega | assumption | (unfold SOk; kernel_rfl) | (unfold SBOk; kernel_rfl)) ?_)
    have cc := nextS_cv n cap f hB hcap hn a sd (by omega); (first | refine callR (by rfl) (by rfl) (by rfl) cc ?_ | refine callM (by rfl) (by rfl) (by rfl) cc ?_ | refine callMo (by rfl) (by rfl) (by rfl) cc ?_ | refine callG (by rfl) (by rfl) (by rfl) cc ?_ | refine callW (by rfl) (by first | rfl | (simp [ofL, kpB, kpR, ofB, isOwnB, isDead, inL, hget]; done)) (by rfl) (by rfl) cc ?_); clear cc; rintro _ _ ⟨b, s1, rfl, hb, rfl⟩
    simp (config := { maxSteps := 1000000 }) (disch := omega) only [go_sem, Int.reduceToNat, ↓reduceIte, Nat.reduceLT, Nat.reduceEqDiff, Nat.reduceAdd, Nat.reduceMul, Nat.reduceSub, Nat.reduceBEq, Nat.reduceLeDiff, reduceCtorEq, Nat.reduceLT, ↓Br_true, ↓Br_false, bind, pure, sc59, sb59]
    refine ⟨fun hc => ?_, fun hc => ?_⟩
    · repeat (with_reducible refine And.intro (by first | omega | assumption | (unfold SOk; kernel_rfl) | (unfold SBOk; kernel_rfl)) ?_)
      have cc := nextS_cv n cap f hB hcap hn (a + 1) s1 (by omega); (first | refine callR (by rfl) (by rfl) (by rfl) cc ?_ | refine callM (by rfl) (by rfl) (by rfl) cc ?_ | refine callMo (by rfl) (by rfl) (by rfl) cc ?_ | refine callG (by rfl) (by rfl) (by rfl) cc ?_ | refine callW (by rfl) (by first | rfl | (simp [ofL, kpB, kpR, ofB, isOwnB, isDead, inL, hget]; done)) (by rfl) (by rfl) cc ?_); clear cc; rintro _ _ ⟨b2, s2, rfl, hb2, rfl⟩
      simp (config := { maxSteps := 1000000 }) (disch := omega) only [go_sem, Int.reduceToNat, ↓reduceIte, Nat.reduceLT, Nat.reduceEqDiff, Nat.reduceAdd, Nat.reduceMul, Nat.reduceSub, Nat.reduceBEq, Nat.reduceLeDiff, reduceCtorEq, Nat.reduceLT, ↓Br_true, ↓Br_false, bind, pure, sc59, sb59]
      exact ⟨by omega, _, _, _, rfl, tm_ok (by omega) (by omega), by omega, rfl⟩
    · exact ⟨by omega, _, _, _, rfl, tm_ok (by omega) (by omega), by omega, rfl⟩
theorem rawS_cv (n cap : Nat) (f : Nat → List FV) (hB : BytesAt n f) (hcap : n ≤ cap) (hn : n ≤ 4096) (a sd : Int) (ha : 0 ≤ a ∧ a ≤ 1048564) :
    CV Tryz.prog 67 [.ptr 0 0 0] [srcS n cap a sd, .rows n cap 1 f false] (fun v h => ∃ x y a' s' : Int, v = .f (.int .u32 (bitI .or .u32 x y)) ∧ (a ≤ a' ∧ a' ≤ a + 4) ∧ h = [srcS n cap a' s', .rows n cap 1 f false]) := by
  refine cv_of_run 1000 sc67 sb67 13 [.tmp 2] tabOk (by kernel_rfl) Tryz.func67 rfl (by kernel_rfl) Tryz.ntmps67 rfl (by simp) rfl (by simp [bdL, SV.bd]) ?_
  simp (config := { maxSteps := 1000000 }) (disch := omega) only [go_sem, Int.reduceToNat, ↓reduceIte, Nat.reduceLT, Nat.reduceEqDiff, Nat.reduceAdd, Nat.reduceMul, Nat.reduceSub, Nat.reduceBEq, Nat.reduceLeDiff, reduceCtorEq, Nat.reduceLT, ↓Br_true, ↓Br_false, bind, pure, sc67, sb67]
  repeat (with_reducible refine And.intro (by first | omega | assumption | (unfold SOk; kernel_rfl) | (unfold SBOk; kernel_rfl)) ?_)
  have cc := pickS_cv n cap f hB hcap hn a sd 65536 (by omega) (by omega); (first | refine callR (by rfl) (by rfl) (by rfl) cc ?_ | refine callM (by rfl) (by rfl) (by rfl) cc ?_ | refine callMo (by rfl) (by rfl) (by rfl) cc ?_ | refine callG (by rfl) (by rfl) (by rfl) cc ?_ | refine callW (by rfl) (by first | rfl | (simp [ofL, kpB, kpR, ofB, isOwnB, isDead, inL, hget]; done)) (by rfl) (by rfl) cc ?_); clear cc; rintro _ _ ⟨b, a1, s1, rfl, hb, ha1, rfl⟩
  simp (config := { maxSteps := 1000000 }) (disch := omega) only [go_sem, Int.reduceToNat, ↓reduceIte, Nat.reduceLT, Nat.reduceEqDiff, Nat.reduceAdd, Nat.reduceMul, Nat.reduceSub, Nat.reduceBEq, Nat.reduceLeDiff, reduceCtorEq, Nat.reduceLT, ↓Br_true, ↓Br_false, bind, pure, sc67, sb67]
  repeat (with_reducible refine And.intro (by first | omega | assumption | (unfold SOk; kernel_rfl) | (unfold SBOk; kernel_rfl)) ?_)
  have cc := pickS_cv n cap f hB hcap hn a1 s1 65536 (by omega) (by omega); (first | refine callR (by rfl) (by rfl) (by rfl) cc ?_ | refine callM (by rfl) (by rfl) (by rfl) cc ?_ | refine callMo (by rfl) (by rfl) (by rfl) cc ?_ | refine callG (by rfl) (by rfl) (by rfl) cc ?_ | refine callW (by rfl) (by first | rfl | (simp [ofL, kpB, kpR, ofB, isOwnB, isDead, inL, hget]; done)) (by rfl) (by rfl) cc ?_); clear cc; rintro _ _ ⟨b2, a2, s2, rfl, hb2, ha2, rfl⟩
  simp (config := { maxSteps := 1000000 }) (disch := omega) only [go_sem, Int.reduceToNat, ↓reduceIte, Nat.reduceLT, Nat.reduceEqDiff, Nat.reduceAdd, Nat.reduceMul, Nat.reduceSub, Nat.reduceBEq, Nat.reduceLeDiff, reduceCtorEq, Nat.reduceLT, ↓Br_true, ↓Br_false, bind, pure, sc67, sb67]
  exact ⟨_, _, _, _, rfl, by omega, rfl⟩
theorem toneS_cv (n cap : Nat) (f : Nat → List FV) (hB : BytesAt n f) (hcap : n ≤ cap) (hn : n ≤ 4096) (a sd : Int) (ha : 0 ≤ a ∧ a ≤ 1048560) :
    CV Tryz.prog 33 [.ptr 0 0 0] [srcS n cap a sd, .rows n cap 1 f false] (fun v h => ∃ (x : Nat) (a' s' : Int), v = .f (.flt .f32 x) ∧ Prt x ∧ ((a ≤ a' ∧ a' ≤ a + 6) ∧ x < 4294967296) ∧ h = [srcS n cap a' s', .rows n cap 1 f false]) := by
  refine cv_of_run 1000 sc33 sb33 22 [.tmp 2] tabOk (by kernel_rfl) Tryz.func33 rfl (by kernel_rfl) Tryz.ntmps33 rfl (by simp) rfl (by simp [bdL, SV.bd]) ?_
  simp (config := { maxSteps := 1000000 }) (disch := omega) only [go_sem, Int.reduceToNat, ↓reduceIte, Nat.reduceLT, Nat.reduceEqDiff, Nat.reduceAdd, Nat.reduceMul, Nat.reduceSub, Nat.reduceBEq, Nat.reduceLeDiff, reduceCtorEq, Nat.reduceLT, ↓Br_true, ↓Br_false, bind, pure, sc33, sb33]
  repeat (with_reducible refine And.intro (by first | omega | assumption | (unfold SOk; kernel_rfl) | (unfold SBOk; kernel_rfl)) ?_)
  have cc := pickS_cv n cap f hB hcap hn a sd 4 (by omega) (by omega); (first | refine callR (by rfl) (by rfl) (by rfl) cc ?_ | refine callM (by rfl) (by rfl) (by rfl) cc ?_ | refine callMo (by rfl) (by rfl) (by rfl) cc ?_ | refine callG (by rfl) (by rfl) (by rfl) cc ?_ | refine callW (by rfl) (by first | rfl | (simp [ofL, kpB, kpR, ofB, isOwnB, isDead, inL, hget]; done)) (by rfl) (by rfl) cc ?_); clear cc; rintro _ _ ⟨b, a1, s1, rfl, hb, ha1, rfl⟩
  simp (config := { maxSteps := 1000000 }) (disch := omega) only [go_sem, Int.reduceToNat, ↓reduceIte, Nat.reduceLT, Nat.reduceEqDiff, Nat.reduceAdd, Nat.reduceMul, Nat.reduceSub, Nat.reduceBEq, Nat.reduceLeDiff, reduceCtorEq, Nat.reduceLT, ↓Br_true, ↓Br_false, bind, pure, sc33, sb33]
  refine ⟨fun hc => ?_, fun hc => ?_⟩
  · repeat (with_reducible refine And.intro (by first | omega | assumption | (unfold SOk; kernel_rfl) | (unfold SBOk; kernel_rfl)) ?_)
    have cc := pickS_cv n cap f hB hcap hn a1 s1 17 (by omega) (by omega); (first | refine callR (by rfl) (by rfl) (by rfl) cc ?_ | refine callM (by rfl) (by rfl) (by rfl) cc ?_ | refine callMo (by rfl) (by rfl) (by rfl) cc ?_ | refine callG (by rfl) (by rfl) (by rfl) cc ?_ | refine callW (by rfl) (by first | rfl | (simp [ofL, kpB, kpR, ofB, isOwnB, isDead, inL, hget]; done)) (by rfl) (by rfl) cc ?_); clear cc; rintro _ _ ⟨b2, a2, s2, rfl, hb2, ha2, rfl⟩
    simp (config := { maxSteps := 1000000 }) (disch := omega) only [go_sem, Int.reduceToNat, ↓reduceIte, Nat.reduceLT, Nat.reduceEqDiff, Nat.reduceAdd, Nat.reduceMul, Nat.reduceSub, Nat.reduceBEq, Nat.reduceLeDiff, reduceCtorEq, Nat.reduceLT, ↓Br_true, ↓Br_false, bind, pure, sc33, sb33]
    have q := part16 hb2.1 hb2.2
    exact ⟨q.1, _, _, _, rfl, q.2, ⟨by omega, fdiv_lt⟩, rfl⟩
  · refine ⟨fun hc => ?_, fun hc => ?_⟩
    · repeat (with_reducible refine And.intro (by first | omega | assumption | (unfold SOk; kernel_rfl) | (unfold SBOk; kernel_rfl)) ?_)
      have cc := pickS_cv n cap f hB hcap hn a1 s1 1001 (by omega) (by omega); (first | refine callR (by rfl) (by rfl) (by rfl) cc ?_ | refine callM (by rfl) (by rfl) (by rfl) cc ?_ | refine callMo (by rfl) (by rfl) (by rfl) cc ?_ | refine callG (by rfl) (by rfl) (by rfl) cc ?_ | refine callW (by rfl) (by first | rfl | (simp [ofL, kpB, kpR, ofB, isOwnB, isDead, inL, hget]; done)) (by rfl) (by rfl) cc ?_); clear cc; rintro _ _ ⟨b2, a2, s2, rfl, hb2, ha2, rfl⟩
      simp (config := { maxSteps := 1000000 }) (disch := omega) only [go_sem, Int.reduceToNat, ↓reduceIte, Nat.reduceLT, Nat.reduceEqDiff, Nat.reduceAdd, Nat.reduceMul, Nat.reduceSub, Nat.reduceBEq, Nat.reduceLeDiff, reduceCtorEq, Nat.reduceLT, ↓Br_true, ↓Br_false, bind, pure, sc33, sb33]
      have q := part1000 hb2.1 hb2.2
      exact ⟨q.1, _, _, _, rfl, q.2, ⟨by omega, fdiv_lt⟩, rfl⟩
    · repeat (with_reducible refine And.intro (by first | omega | assumption | (unfold SOk; kernel_rfl) | (unfold SBOk; kernel_rfl)) ?_)
      have cc := rawS_cv n cap f hB hcap hn a1 s1 (by omega); (first | refine callR (by rfl) (by rfl) (by rfl) cc ?_ | refine callM (by rfl) (by rfl) (by rfl) cc ?_ | refine callMo (by rfl) (by rfl) (by rfl) cc ?_ | refine callG (by rfl) (by rfl) (by rfl) cc ?_ | refine callW (by rfl) (by first | rfl | (simp [ofL, kpB, kpR, ofB, isOwnB, isDead, inL, hget]; done)) (by rfl) (by rfl) cc ?_); clear cc; rintro _ _ ⟨x, y, a2, s2, rfl, ha2, rfl⟩
      simp (config := { maxSteps := 1000000 }) (disch := omega) only [go_sem, Int.reduceToNat, ↓reduceIte, Nat.reduceLT, Nat.reduceEqDiff, Nat.reduceAdd, Nat.reduceMul, Nat.reduceSub, Nat.reduceBEq, Nat.reduceLeDiff, reduceCtorEq, Nat.reduceLT, ↓Br_true, ↓Br_false, bind, pure, sc33, sb33]
      have q := part24 (raw24 x y).1 (raw24 x y).2
      exact ⟨by omega, q.1, _, _, _, rfl, q.2, ⟨by omega, fdiv_lt⟩, rfl⟩
theorem fromS_cv (n cap : Nat) (f : Nat → List FV) (hB : BytesAt n f) (hcap : n ≤ cap) (hn : n ≤ 4096) :
    CV Tryz.prog 32 [.slc 0 0 n cap] [.rows n cap 1 f false] (fun v h => v = .ptr 1 0 0 ∧ h = [.rows n cap 1 f false, .lit [.slc 0 0 n cap, .f (.int .i64 0), .f (.int .u64 0)] true]) := by
  refine cv_of_run 1000 sc32 sb32 6 [.tmp 2] tabOk (by kernel_rfl) Tryz.func32 rfl (by kernel_rfl) Tryz.ntmps32 rfl (by simp) rfl (by simp [bdL, SV.bd]) ?_
  simp (config := { maxSteps := 1000000 }) (disch := omega) only [go_sem, Int.reduceToNat, ↓reduceIte, Nat.reduceLT, Nat.reduceEqDiff, Nat.reduceAdd, Nat.reduceMul, Nat.reduceSub, Nat.reduceBEq, Nat.reduceLeDiff, reduceCtorEq, Nat.reduceLT, ↓Br_true, ↓Br_false, bind, pure, sc32, sb32]
theorem P6PickS_cv (n cap : Nat) (f : Nat → List FV) (hB : BytesAt n f) (hcap : n ≤ cap) (hn : n ≤ 4096) (k : Int) (hk : 1 ≤ k ∧ k ≤ 65536) :
    CV Tryz.prog 26 [.slc 0 0 n cap, .f (.int .i64 k)] [.rows n cap 1 f false] (fun v h => ∃ b : Int, v = .f (.int .i64 b) ∧ (0 ≤ b ∧ b < k) ∧ h = [.rows n cap 1 f false]) := by
  refine cv_of_run 1000 sc26 sb26 9 [.tmp 4] tabOk (by kernel_rfl) Tryz.func26 rfl (by kernel_rfl) Tryz.ntmps26 rfl (by simp) rfl (by simp [bdL, SV.bd]) ?_
  simp (config := { maxSteps := 1000000 }) (disch := omega) only [go_sem, Int.reduceToNat, ↓reduceIte, Nat.reduceLT, Nat.reduceEqDiff, Nat.reduceAdd, Nat.reduceMul, Nat.reduceSub, Nat.reduceBEq, Nat.reduceLeDiff, reduceCtorEq, Nat.reduceLT, ↓Br_true, ↓Br_false, bind, pure, sc26, sb26]
  have cc := fromS_cv n cap f hB hcap hn; (first | refine callR (by rfl) (by rfl) (by rfl) cc ?_ | refine callM (by rfl) (by rfl) (by rfl) cc ?_ | refine callMo (by rfl) (by rfl) (by rfl) cc ?_ | refine callG (by rfl) (by rfl) (by rfl) cc ?_ | refine callW (by rfl) (by first | rfl | (simp [ofL, kpB, kpR, ofB, isOwnB, isDead, inL, hget]; done)) (by rfl) (by rfl) cc ?_); clear cc; rintro _ _ ⟨rfl, rfl⟩
  simp (config := { maxSteps := 1000000 }) (disch := omega) only [go_sem, Int.reduceToNat, ↓reduceIte, Nat.reduceLT, Nat.reduceEqDiff, Nat.reduceAdd, Nat.reduceMul, Nat.reduceSub, Nat.reduceBEq, Nat.reduceLeDiff, reduceCtorEq, Nat.reduceLT, ↓Br_true, ↓Br_false, bind, pure, sc26, sb26]
  have cc := pickS_cv n cap f hB hcap hn 0 0 k (by omega) hk; (first | refine callR (by rfl) (by rfl) (by rfl) cc ?_ | refine callM (by rfl) (by rfl) (by rfl) cc ?_ | refine callMo (by rfl) (by rfl) (by rfl) cc ?_ | refine callG (by rfl) (by rfl) (by rfl) cc ?_ | refine callW (by rfl) (by first | rfl | (simp [ofL, kpB, kpR, ofB, isOwnB, isDead, inL, hget]; done)) (by rfl) (by rfl) cc ?_); clear cc; rintro _ _ ⟨b, a1, s1, rfl, hb, ha1, rfl⟩
  simp (config := { maxSteps := 1000000 }) (disch := omega) only [go_sem, Int.reduceToNat, ↓reduceIte, Nat.reduceLT, Nat.reduceEqDiff, Nat.reduceAdd, Nat.reduceMul, Nat.reduceSub, Nat.reduceBEq, Nat.reduceLeDiff, reduceCtorEq, Nat.reduceLT, ↓Br_true, ↓Br_false, bind, pure, sc26, sb26]
  simpa using hb

theorem nextN_cv (a sd : Int) (ha : 0 ≤ a ∧ a ≤ 1048576) :
    CV Tryz.prog 81 [.ptr 0 0 0] [srcN a sd] (fun v h => ∃ b s' : Int, v = .f (.int .i64 b) ∧ (0 ≤ b ∧ b ≤ 255) ∧ h = [srcN (a + 1) s']) := by
  have hd : decide (a < (0 : Int)) = false := decide_eq_false (by omega)
  have hd2 : decide (a + 1 ≤ (0 : Int)) = false := decide_eq_false (by omega)
  refine cv_of_run 1000 sc81 sb81 62 [.tmp 2] tabOk (by kernel_rfl) Tryz.func81 rfl (by kernel_rfl) Tryz.ntmps81 rfl (by simp) rfl (by simp [bdL, SV.bd]) ?_
  simp (config := { maxSteps := 1000000 }) (disch := omega) only [go_sem, Int.reduceToNat, ↓reduceIte, Nat.reduceLT, Nat.reduceEqDiff, Nat.reduceAdd, Nat.reduceMul, Nat.reduceSub, Nat.reduceBEq, Nat.reduceLeDiff, reduceCtorEq, Nat.reduceLT, ↓Br_true, ↓Br_false, bind, pure, sc81, sb81, hd, hd2, wr255]
  repeat' (first | (with_reducible refine And.intro (by first | (unfold SOk; kernel_rfl) | (unfold SBOk; kernel_rfl) | (with_reducible assumption) | omega | assumption) ?_) | (with_reducible refine Br_intro (fun hc => ?_) (fun hc => ?_)) | ((with_reducible show WidN _ _ _ _ _ _ _ _); (first | refine widL (by decide) (by with_reducible assumption) ?_ | refine widL (by decide) (FWok_nn (by with_reducible assumption)) ?_ | refine widN (by decide) (fun c hc => ?_)); simp (config := { maxSteps := 1000000 }) (disch := omega) only [go_sem, Int.reduceToNat, ↓reduceIte, Nat.reduceLT, Nat.reduceEqDiff, Nat.reduceAdd, Nat.reduceMul, Nat.reduceSub, Nat.reduceBEq, Nat.reduceLeDiff, reduceCtorEq, Nat.reduceLT, ↓Br_true, ↓Br_false, bind, pure, sc81, sb81, hd, hd2, wr255]))
  exact ⟨_, _, rfl, and255 _, rfl⟩
theorem pickN_cv (a sd k : Int) (ha : 0 ≤ a ∧ a ≤ 1048570) (hk : 1 ≤ k ∧ k ≤ 65536) :
    CV Tryz.prog 59 [.ptr 0 0 0, .f (.int .i64 k)] [srcN a sd] (fun v h => ∃ b a' s' : Int, v = .f (.int .i64 b) ∧ (0 ≤ b ∧ b < k) ∧ (a ≤ a' ∧ a' ≤ a + 2) ∧ h = [srcN a' s']) := by
  by_cases h1 : k ≤ 1
  · have hd : decide (k ≤ 1) = true := decide_eq_true h1
    refine cv_of_run 1000 sc59 sb59 20 [.tmp 4] tabOk (by kernel_rfl) Tryz.func59 rfl (by kernel_rfl) Tryz.ntmps59 rfl (by simp) rfl (by simp [bdL, SV.bd]) ?_
    simp (config := { maxSteps := 1000000 }) (disch := omega) only [go_sem, Int.reduceToNat, ↓reduceIte, Nat.reduceLT, Nat.reduceEqDiff, Nat.reduceAdd, Nat.reduceMul, Nat.reduceSub, Nat.reduceBEq, Nat.reduceLeDiff, reduceCtorEq, Nat.reduceLT, ↓Br_true, ↓Br_false, bind, pure, sc59, sb59, hd]
    exact ⟨0, a, sd, rfl, by omega, by omega, rfl⟩
  · have hd : decide (k ≤ 1) = false := decide_eq_false h1
    refine cv_of_run 1000 sc59 sb59 20 [.tmp 4] tabOk (by kernel_rfl) Tryz.func59 rfl (by kernel_rfl) Tryz.ntmps59 rfl (by simp) rfl (by simp [bdL, SV.bd]) ?_
    simp (config := { maxSteps := 1000000 }) (disch := omega) only [go_sem, Int.reduceToNat, ↓reduceIte, Nat.reduceLT, Nat.reduceEqDiff, Nat.reduceAdd, Nat.reduceMul, Nat.reduceSub, Nat.reduceBEq, Nat.reduceLeDiff, reduceCtorEq, Nat.reduceLT, ↓Br_true, ↓Br_false, bind, pure, sc59, sb59, hd]
    repeat (with_reducible refine And.intro (by first | omega | assumption | (unfold SOk; kernel_rfl) | (unfold SBOk; kernel_rfl)) ?_)
    have cc := nextN_cv  a sd (by omega); (first | refine callR (by rfl) (by rfl) (by rfl) cc ?_ | refine callM (by rfl) (by rfl) (by rfl) cc ?_ | refine callMo (by rfl) (by rfl) (by rfl) cc ?_ | refine callG (by rfl) (by rfl) (by rfl) cc ?_ | refine callW (by rfl) (by first | rfl | (simp [ofL, kpB, kpR, ofB, isOwnB, isDead, inL, hget]; done)) (by rfl) (by rfl) cc ?_); clear cc; rintro _ _ ⟨b, s1, rfl, hb, rfl⟩
    simp (config := { maxSteps := 1000000 }) (disch := omega) only [go_sem, Int.reduceToNat, ↓reduceIte, Nat.reduceLT, Nat.reduceEqDiff, Nat.reduceAdd, Nat.reduceMul, Nat.reduceSub, Nat.reduceBEq, Nat.reduceLeDiff, reduceCtorEq, Nat.reduceLT, ↓Br_true, ↓Br_false, bind, pure, sc59, sb59]
    refine ⟨fun hc => ?_, fun hc => ?_⟩
    · repeat (with_reducible refine And.intro (by first | omega | assumption | (unfold SOk; kernel_rfl) | (unfold SBOk; kernel_rfl)) ?_)
      have cc := nextN_cv  (a + 1) s1 (by omega); (first | refine callR (by rfl) (by rfl) (by rfl) cc ?_ | refine callM (by rfl) (by rfl) (by rfl) cc ?_ | refine callMo (by rfl) (by rfl) (by rfl) cc ?_ | refine callG (by rfl) (by rfl) (by rfl) cc ?_ | refine callW (by rfl) (by first | rfl | (simp [ofL, kpB, kpR, ofB, isOwnB, isDead, inL, hget]; done)) (by rfl) (by rfl) cc ?_); clear cc; rintro _ _ ⟨b2, s2, rfl, hb2, rfl⟩
      simp (config := { maxSteps := 1000000 }) (disch := omega) only [go_sem, Int.reduceToNat, ↓reduceIte, Nat.reduceLT, Nat.reduceEqDiff, Nat.reduceAdd, Nat.reduceMul, Nat.reduceSub, Nat.reduceBEq, Nat.reduceLeDiff, reduceCtorEq, Nat.reduceLT, ↓Br_true, ↓Br_false, bind, pure, sc59, sb59]
      exact ⟨by omega, _, _, _, rfl, tm_ok (by omega) (by omega), by omega, rfl⟩
    · exact ⟨by omega, _, _, _, rfl, tm_ok (by omega) (by omega), by omega, rfl⟩
theorem rawN_cv (a sd : Int) (ha : 0 ≤ a ∧ a ≤ 1048564) :
    CV Tryz.prog 67 [.ptr 0 0 0] [srcN a sd] (fun v h => ∃ x y a' s' : Int, v = .f (.int .u32 (bitI .or .u32 x y)) ∧ (a ≤ a' ∧ a' ≤ a + 4) ∧ h = [srcN a' s']) := by
  refine cv_of_run 1000 sc67 sb67 13 [.tmp 2] tabOk (by kernel_rfl) Tryz.func67 rfl (by kernel_rfl) Tryz.ntmps67 rfl (by simp) rfl (by simp [bdL, SV.bd]) ?_
  simp (config := { maxSteps := 1000000 }) (disch := omega) only [go_sem, Int.reduceToNat, ↓reduceIte, Nat.reduceLT, Nat.reduceEqDiff, Nat.reduceAdd, Nat.reduceMul, Nat.reduceSub, Nat.reduceBEq, Nat.reduceLeDiff, reduceCtorEq, Nat.reduceLT, ↓Br_true, ↓Br_false, bind, pure, sc67, sb67]
  repeat (with_reducible refine And.intro (by first | omega | assumption | (unfold SOk; kernel_rfl) | (unfold SBOk; kernel_rfl)) ?_)
  have cc := pickN_cv  a sd 65536 (by omega) (by omega); (first | refine callR (by rfl) (by rfl) (by rfl) cc ?_ | refine callM (by rfl) (by rfl) (by rfl) cc ?_ | refine callMo (by rfl) (by rfl) (by rfl) cc ?_ | refine callG (by rfl) (by rfl) (by rfl) cc ?_ | refine callW (by rfl) (by first | rfl | (simp [ofL, kpB, kpR, ofB, isOwnB, isDead, inL, hget]; done)) (by rfl) (by rfl) cc ?_); clear cc; rintro _ _ ⟨b, a1, s1, rfl, hb, ha1, rfl⟩
  simp (config := { maxSteps := 1000000 }) (disch := omega) only [go_sem, Int.reduceToNat, ↓reduceIte, Nat.reduceLT, Nat.reduceEqDiff, Nat.reduceAdd, Nat.reduceMul, Nat.reduceSub, Nat.reduceBEq, Nat.reduceLeDiff, reduceCtorEq, Nat.reduceLT, ↓Br_true, ↓Br_false, bind, pure, sc67, sb67]
  repeat (with_reducible refine And.intro (by first | omega | assumption | (unfold SOk; kernel_rfl) | (unfold SBOk; kernel_rfl)) ?_)
  have cc := pickN_cv  a1 s1 65536 (by omega) (by omega); (first | refine callR (by rfl) (by rfl) (by rfl) cc ?_ | refine callM (by rfl) (by rfl) (by rfl) cc ?_ | refine callMo (by rfl) (by rfl) (by rfl) cc ?_ | refine callG (by rfl) (by rfl) (by rfl) cc ?_ | refine callW (by rfl) (by first | rfl | (simp [ofL, kpB, kpR, ofB, isOwnB, isDead, inL, hget]; done)) (by rfl) (by rfl) cc ?_); clear cc; rintro _ _ ⟨b2, a2, s2, rfl, hb2, ha2, rfl⟩
  simp (config := { maxSteps := 1000000 }) (disch := omega) only [go_sem, Int.reduceToNat, ↓reduceIte, Nat.reduceLT, Nat.reduceEqDiff, Nat.reduceAdd, Nat.reduceMul, Nat.reduceSub, Nat.reduceBEq, Nat.reduceLeDiff, reduceCtorEq, Nat.reduceLT, ↓Br_true, ↓Br_false, bind, pure, sc67, sb67]
  exact ⟨_, _, _, _, rfl, by omega, rfl⟩
theorem toneN_cv (a sd : Int) (ha : 0 ≤ a ∧ a ≤ 1048560) :
    CV Tryz.prog 33 [.ptr 0 0 0] [srcN a sd] (fun v h => ∃ (x : Nat) (a' s' : Int), v = .f (.flt .f32 x) ∧ Prt x ∧ (a ≤ a' ∧ a' ≤ a + 6) ∧ h = [srcN a' s']) := by
  refine cv_of_run 1000 sc33 sb33 22 [.tmp 2] tabOk (by kernel_rfl) Tryz.func33 rfl (by kernel_rfl) Tryz.ntmps33 rfl (by simp) rfl (by simp [bdL, SV.bd]) ?_
  simp (config := { maxSteps := 1000000 }) (disch := omega) only [go_sem, Int.reduceToNat, ↓reduceIte, Nat.reduceLT, Nat.reduceEqDiff, Nat.reduceAdd, Nat.reduceMul, Nat.reduceSub, Nat.reduceBEq, Nat.reduceLeDiff, reduceCtorEq, Nat.reduceLT, ↓Br_true, ↓Br_false, bind, pure, sc33, sb33]
  repeat (with_reducible refine And.intro (by first | omega | assumption | (unfold SOk; kernel_rfl) | (unfold SBOk; kernel_rfl)) ?_)
  have cc := pickN_cv  a sd 4 (by omega) (by omega); (first | refine callR (by rfl) (by rfl) (by rfl) cc ?_ | refine callM (by rfl) (by rfl) (by rfl) cc ?_ | refine callMo (by rfl) (by rfl) (by rfl) cc ?_ | refine callG (by rfl) (by rfl) (by rfl) cc ?_ | refine callW (by rfl) (by first | rfl | (simp [ofL, kpB, kpR, ofB, isOwnB, isDead, inL, hget]; done)) (by rfl) (by rfl) cc ?_); clear cc; rintro _ _ ⟨b, a1, s1, rfl, hb, ha1, rfl⟩
  simp (config := { maxSteps := 1000000 }) (disch := omega) only [go_sem, Int.reduceToNat, ↓reduceIte, Nat.reduceLT, Nat.reduceEqDiff, Nat.reduceAdd, Nat.reduceMul, Nat.reduceSub, Nat.reduceBEq, Nat.reduceLeDiff, reduceCtorEq, Nat.reduceLT, ↓Br_true, ↓Br_false, bind, pure, sc33, sb33]
  refine ⟨fun hc => ?_, fun hc => ?_⟩
  · repeat (with_reducible refine And.intro (by first | omega | assumption | (unfold SOk; kernel_rfl) | (unfold SBOk; kernel_rfl)) ?_)
    have cc := pickN_cv  a1 s1 17 (by omega) (by omega); (first | refine callR (by rfl) (by rfl) (by rfl) cc ?_ | refine callM (by rfl) (by rfl) (by rfl) cc ?_ | refine callMo (by rfl) (by rfl) (by rfl) cc ?_ | refine callG (by rfl) (by rfl) (by rfl) cc ?_ | refine callW (by rfl) (by first | rfl | (simp [ofL, kpB, kpR, ofB, isOwnB, isDead, inL, hget]; done)) (by rfl) (by rfl) cc ?_); clear cc; rintro _ _ ⟨b2, a2, s2, rfl, hb2, ha2, rfl⟩
    simp (config := { maxSteps := 1000000 }) (disch := omega) only [go_sem, Int.reduceToNat, ↓reduceIte, Nat.reduceLT, Nat.reduceEqDiff, Nat.reduceAdd, Nat.reduceMul, Nat.reduceSub, Nat.reduceBEq, Nat.reduceLeDiff, reduceCtorEq, Nat.reduceLT, ↓Br_true, ↓Br_false, bind, pure, sc33, sb33]
    have q := part16 hb2.1 hb2.2
    exact ⟨q.1, _, _, _, rfl, q.2, by omega, rfl⟩
  · refine ⟨fun hc => ?_, fun hc => ?_⟩
    · repeat (with_reducible refine And.intro (by first | omega | assumption | (unfold SOk; kernel_rfl) | (unfold SBOk; kernel_rfl)) ?_)
      have cc := pickN_cv  a1 s1 1001 (by omega) (by omega); (first | refine callR (by rfl) (by rfl) (by rfl) cc ?_ | refine callM (by rfl) (by rfl) (by rfl) cc ?_ | refine callMo (by rfl) (by rfl) (by rfl) cc ?_ | refine callG (by rfl) (by rfl) (by rfl) cc ?_ | refine callW (by rfl) (by first | rfl | (simp [ofL, kpB, kpR, ofB, isOwnB, isDead, inL, hget]; done)) (by rfl) (by rfl) cc ?_); clear cc; rintro _ _ ⟨b2, a2, s2, rfl, hb2, ha2, rfl⟩
      simp (config := { maxSteps := 1000000 }) (disch := omega) only [go_sem, Int.reduceToNat, ↓reduceIte, Nat.reduceLT, Nat.reduceEqDiff, Nat.reduceAdd, Nat.reduceMul, Nat.reduceSub, Nat.reduceBEq, Nat.reduceLeDiff, reduceCtorEq, Nat.reduceLT, ↓Br_true, ↓Br_false, bind, pure, sc33, sb33]
      have q := part1000 hb2.1 hb2.2
      exact ⟨q.1, _, _, _, rfl, q.2, by omega, rfl⟩
    · repeat (with_reducible refine And.intro (by first | omega | assumption | (unfold SOk; kernel_rfl) | (unfold SBOk; kernel_rfl)) ?_)
      have cc := rawN_cv  a1 s1 (by omega); (first | refine callR (by rfl) (by rfl) (by rfl) cc ?_ | refine callM (by rfl) (by rfl) (by rfl) cc ?_ | refine callMo (by rfl) (by rfl) (by rfl) cc ?_ | refine callG (by rfl) (by rfl) (by rfl) cc ?_ | refine callW (by rfl) (by first | rfl | (simp [ofL, kpB, kpR, ofB, isOwnB, isDead, inL, hget]; done)) (by rfl) (by rfl) cc ?_); clear cc; rintro _ _ ⟨x, y, a2, s2, rfl, ha2, rfl⟩
      simp (config := { maxSteps := 1000000 }) (disch := omega) only [go_sem, Int.reduceToNat, ↓reduceIte, Nat.reduceLT, Nat.reduceEqDiff, Nat.reduceAdd, Nat.reduceMul, Nat.reduceSub, Nat.reduceBEq, Nat.reduceLeDiff, reduceCtorEq, Nat.reduceLT, ↓Br_true, ↓Br_false, bind, pure, sc33, sb33]
      have q := part24 (raw24 x y).1 (raw24 x y).2
      exact ⟨by omega, q.1, _, _, _, rfl, q.2, by omega, rfl⟩
theorem fromN_cv :
    CV Tryz.prog 32 [.f .nils] [] (fun v h => v = .ptr 0 0 0 ∧ h = [.lit [.f .nils, .f (.int .i64 0), .f (.int .u64 0)] true]) := by
  refine cv_of_run 1000 sc32 sb32 6 [.tmp 2] tabOk (by kernel_rfl) Tryz.func32 rfl (by kernel_rfl) Tryz.ntmps32 rfl (by simp) rfl (by simp [bdL, SV.bd]) ?_
  simp (config := { maxSteps := 1000000 }) (disch := omega) only [go_sem, Int.reduceToNat, ↓reduceIte, Nat.reduceLT, Nat.reduceEqDiff, Nat.reduceAdd, Nat.reduceMul, Nat.reduceSub, Nat.reduceBEq, Nat.reduceLeDiff, reduceCtorEq, Nat.reduceLT, ↓Br_true, ↓Br_false, bind, pure, sc32, sb32]
theorem P6PickN_cv (k : Int) (hk : 1 ≤ k ∧ k ≤ 65536) :
    CV Tryz.prog 26 [.f .nils, .f (.int .i64 k)] [] (fun v h => ∃ b : Int, v = .f (.int .i64 b) ∧ (0 ≤ b ∧ b < k) ∧ h = []) := by
  refine cv_of_run 1000 sc26 sb26 9 [.tmp 4] tabOk (by kernel_rfl) Tryz.func26 rfl (by kernel_rfl) Tryz.ntmps26 rfl (by simp) rfl (by simp [bdL, SV.bd]) ?_
  simp (config := { maxSteps := 1000000 }) (disch := omega) only [go_sem, Int.reduceToNat, ↓reduceIte, Nat.reduceLT, Nat.reduceEqDiff, Nat.reduceAdd, Nat.reduceMul, Nat.reduceSub, Nat.reduceBEq, Nat.reduceLeDiff, reduceCtorEq, Nat.reduceLT, ↓Br_true, ↓Br_false, bind, pure, sc26, sb26]
  have cc := fromN_cv; (first | refine callR (by rfl) (by rfl) (by rfl) cc ?_ | refine callM (by rfl) (by rfl) (by rfl) cc ?_ | refine callMo (by rfl) (by rfl) (by rfl) cc ?_ | refine callG (by rfl) (by rfl) (by rfl) cc ?_ | refine callW (by rfl) (by first | rfl | (simp [ofL, kpB, kpR, ofB, isOwnB, isDead, inL, hget]; done)) (by rfl) (by rfl) cc ?_); clear cc; rintro _ _ ⟨rfl, rfl⟩
  simp (config := { maxSteps := 1000000 }) (disch := omega) only [go_sem, Int.reduceToNat, ↓reduceIte, Nat.reduceLT, Nat.reduceEqDiff, Nat.reduceAdd, Nat.reduceMul, Nat.reduceSub, Nat.reduceBEq, Nat.reduceLeDiff, reduceCtorEq, Nat.reduceLT, ↓Br_true, ↓Br_false, bind, pure, sc26, sb26]
  have cc := pickN_cv  0 0 k (by omega) hk; (first | refine callR (by rfl) (by rfl) (by rfl) cc ?_ | refine callM (by rfl) (by rfl) (by rfl) cc ?_ | refine callMo (by rfl) (by rfl) (by rfl) cc ?_ | refine callG (by rfl) (by rfl) (by rfl) cc ?_ | refine callW (by rfl) (by first | rfl | (simp [ofL, kpB, kpR, ofB, isOwnB, isDead, inL, hget]; done)) (by rfl) (by rfl) cc ?_); clear cc; rintro _ _ ⟨b, a1, s1, rfl, hb, ha1, rfl⟩
  simp (config := { maxSteps := 1000000 }) (disch := omega) only [go_sem, Int.reduceToNat, ↓reduceIte, Nat.reduceLT, Nat.reduceEqDiff, Nat.reduceAdd, Nat.reduceMul, Nat.reduceSub, Nat.reduceBEq, Nat.reduceLeDiff, reduceCtorEq, Nat.reduceLT, ↓Br_true, ↓Br_false, bind, pure, sc26, sb26]
  simpa using hb
end Go.Proofs.YtjhddlkfkicpaaaGreatDoor.Vx
