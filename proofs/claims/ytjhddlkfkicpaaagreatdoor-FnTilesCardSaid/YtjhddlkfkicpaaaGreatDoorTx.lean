/- Rooms that are read: the reference's numbers and lines. -/
import Derived.Test.YtjhddlkfkicpaaaGreatDoorTo
import Derived.Test.YtjhddlkfkicpaaaGreatDoorTu
namespace Go.Proofs.YtjhddlkfkicpaaaGreatDoor.Vx
open Go Go.RowKit Fl
set_option maxRecDepth 100000
set_option maxHeartbeats 4000000
set_option linter.unusedSimpArgs false
set_option linter.unusedVariables false
def dd (c : UInt8) : Option Nat := if 48 ≤ c.toNat ∧ c.toNat ≤ 57 then some (c.toNat - 48) else none
def d10 : Nat → List UInt8 → Option Nat
  | acc, [] => some acc
  | acc, c :: r => match dd c with
    | some d => d10 (acc * 10 + d) r
    | none => none
/-- The whole number of a text, for the reference. -/
def sN (s : List UInt8) : Option Nat := if (1 ≤ s.length ∧ s.length ≤ 9) ∧ ¬ (s[0]? = some 48 ∧ 1 < s.length) then d10 0 s else none
theorem dd_ok {c : UInt8} {d : Nat} (h : dd c = some d) : d < 10 ∧ c = UInt8.ofNat (48 + d) := by
  unfold dd at h
  split at h
  · rename_i k
    cases h
    refine ⟨by omega, ?_⟩
    apply UInt8.toNat_inj.1
    rw [UInt8.toNat_ofNat']
    have := c.toNat_lt
    omega
  · cases h
theorem d10_app (l : List UInt8) (c : UInt8) : ∀ acc, d10 acc (l ++ [c]) = (d10 acc l).bind fun a => (dd c).map fun d => a * 10 + d := by
  induction l with
  | nil => intro acc; simp only [List.nil_append, d10]; cases dd c <;> rfl
  | cons b r ih =>
    intro acc
    simp only [List.cons_append, d10]
    cases dd b with
    | none => rfl
    | some d => exact ih _
theorem d10_dec : ∀ (n : Nat) (l : List UInt8) (u : Nat), l.length = n + 1 → ¬ (l[0]? = some 48 ∧ 1 < l.length) → d10 0 l = some u → l = Lib.decDigits u := by
  intro n
  induction n with
  | zero =>
    intro l u hn _ h
    match l, hn with
    | [c], _ =>
      simp only [d10] at h
      split at h
      · rename_i d hd
        obtain ⟨a, b⟩ := dd_ok hd
        simp only [Option.some.injEq, Nat.zero_mul, Nat.zero_add] at h
        subst h
        rw [Lib.decDigits_one a, b]
      · cases h
  | succ n ih =>
    intro l0 u hn hz h
    have hne : l0 ≠ [] := fun e => by rw [e] at hn; cases hn
    obtain ⟨l, c, rfl⟩ : ∃ l c, l0 = l ++ [c] := ⟨_, _, (List.dropLast_concat_getLast hne).symm⟩
    have hl : l.length = n + 1 := by simpa using hn
    rw [d10_app] at h
    cases e1 : d10 0 l with
    | none => rw [e1] at h; cases h
    | some a =>
      cases e2 : dd c with
      | none => rw [e1, e2] at h; cases h
      | some d =>
        rw [e1, e2] at h
        simp only [Option.bind_some, Option.map_some, Option.some.injEq] at h
        obtain ⟨q1, q2⟩ := dd_ok e2
        have h0 : (l ++ [c])[0]? = l[0]? := List.getElem?_append_left (by omega)
        rw [h0] at hz
        have hz' : ¬ l[0]? = some 48 := fun e => hz ⟨e, by simp; omega⟩
        have hL := ih l a hl (fun e => hz' e.1) e1
        have ha : 0 < a := by
          rcases Nat.eq_zero_or_pos a with rfl | h
          · exfalso
            rw [Lib.decDigits_one (by omega)] at hL
            rw [hL] at hz'
            exact hz' rfl
          · exact h
        subst h
        rw [Lib.decDigits, dif_neg (by omega), show (a * 10 + d) / 10 = a by omega, show (a * 10 + d) % 10 = d by omega, ← hL, q2]
theorem sN_dec {s : List UInt8} {n : Nat} (h : sN s = some n) : s = Lib.itoa (n : Int) := by
  unfold sN at h
  split at h
  · rename_i c
    rw [Lib.itoa_nonneg]
    exact d10_dec (s.length - 1) s n (by omega) c.2 h
  · cases h
theorem sN_small : ∀ k, k ≤ 10 → sN (if k < 10 then [UInt8.ofNat (48 + k)] else [49, 48]) = some k := by decide
theorem sN_itoa {k : Nat} (h : k ≤ 10) : sN (Lib.itoa (k : Int)) = some k := by rw [itoa_small h]; exact sN_small k h
theorem d10_lt : ∀ (l : List UInt8) (acc u : Nat), d10 acc l = some u → u < (acc + 1) * 10 ^ l.length
  | [], acc, u, h => by simp only [d10, Option.some.injEq] at h; simp; omega
  | c :: r, acc, u, h => by
    simp only [d10] at h
    split at h
    · rename_i d hd
      have h1 := d10_lt r _ _ h
      have h2 := (dd_ok hd).1
      rw [List.length_cons, Nat.pow_succ, Nat.mul_comm (10 ^ r.length), ← Nat.mul_assoc]
      exact Nat.lt_of_lt_of_le h1 (Nat.mul_le_mul_right _ (by omega))
    · cases h
end Go.Proofs.YtjhddlkfkicpaaaGreatDoor.Vx

namespace Go.Proofs.YtjhddlkfkicpaaaGreatDoor.Vx
open Go Go.RowKit Fl
set_option maxRecDepth 100000
set_option maxHeartbeats 4000000
set_option linter.unusedSimpArgs false
set_option linter.unusedVariables false
def ltr (k : Nat) : UInt8 := if k = 0 then 110 else if k = 1 then 101 else if k = 2 then 115 else 119
def wlK (c : UInt8) : Nat → Int
  | 0 => -1
  | k + 1 => if ltr k = c then k else wlK c k
def wlB (n : Nat) : Bool := let c := UInt8.ofNat n; (wlK c 4 == Lib.indexByte [110, 101, 115, 119] c) && (decide (wlK c 4 < 0) || (lett (wlK c 4) == c)) && decide (-1 ≤ wlK c 4) && decide (wlK c 4 ≤ 3)
theorem wlB_all : (List.range 256).all wlB = true := by decide +kernel
theorem wl_told (c : UInt8) : wlK c 4 = Lib.indexByte [110, 101, 115, 119] c ∧ (0 ≤ wlK c 4 → lett (wlK c 4) = c) ∧ -1 ≤ wlK c 4 ∧ wlK c 4 ≤ 3 := by
  have := List.all_eq_true.1 wlB_all c.toNat (by simpa using c.toNat_lt)
  have e : UInt8.ofNat c.toNat = c := by simp
  simp only [wlB, e, Bool.and_eq_true, Bool.or_eq_true, decide_eq_true_eq, beq_iff_eq] at this
  exact ⟨this.1.1.1, fun h => this.1.1.2.resolve_left (by omega), this.1.2, this.2⟩
theorem wl_lett {w : Int} (h : 0 ≤ w ∧ w ≤ 3) : wlK (lett w) 4 = w := by
  have : w = 0 ∨ w = 1 ∨ w = 2 ∨ w = 3 := by omega
  rcases this with rfl | rfl | rfl | rfl <;> decide
/-- The parts of a line. -/
def pA (s : List UInt8) : List UInt8 := (sp 47 s).getD 0 []
def pB (s : List UInt8) : List UInt8 := (sp 47 s).getD 1 []
def lnF (s : List UInt8) : Bool := decide ((sp 47 s).length = 2) && decide (2 ≤ (pA s).length)
def lnW (s : List UInt8) : Int := wlK ((pA s).getD 0 0) 4
def lnN (s : List UInt8) : Nat := (sN ((pA s).drop 1)).getD 0
def lnOk (s : List UInt8) : Bool := lnF s && ((sN ((pA s).drop 1)).isSome && ((num (pB s)).isSome && decide (0 ≤ lnW s)))
/-- The window of a line. -/
def lnU (s : List UInt8) : Win := if lnF s then ⟨lnW s, (min (lnN s) 100 : Nat), srF (pB s)⟩ else ⟨0, 0, 0⟩
theorem sp_pieceC {c : UInt8} : ∀ {t p : List UInt8}, p ∈ sp c t → p.length ≤ t.length
  | [], p, h => by simp [sp] at h; simp [h]
  | b :: r, p, h => by
    simp only [sp] at h
    split at h
    · rcases List.mem_cons.1 h with rfl | h
      · simp
      · have := sp_pieceC h; simp; omega
    · have hne := sp_ne c r
      cases hq : sp c r with
      | nil => exact absurd hq hne
      | cons q l =>
        rw [hq, consH] at h
        have hm : ∀ x, x ∈ q :: l → x.length ≤ r.length := fun x hx => sp_pieceC (c := c) (by rw [hq]; exact hx)
        rcases List.mem_cons.1 h with rfl | h
        · have := hm q (by simp); simp; omega
        · have := hm p (by simp [h]); simp; omega
theorem getD_len (c : UInt8) (t : List UInt8) (k : Nat) : ((sp c t).getD k []).length ≤ t.length := by
  by_cases h : k < (sp c t).length
  · rw [List.getD_eq_getElem?_getD, List.getElem?_eq_getElem h]
    exact sp_pieceC (List.getElem_mem h)
  · rw [List.getD_eq_getElem?_getD, List.getElem?_eq_none (by omega)]; simp
end Go.Proofs.YtjhddlkfkicpaaaGreatDoor.Vx

namespace Go.Proofs.YtjhddlkfkicpaaaGreatDoor.Vx
open Go Go.RowKit Fl
set_option maxRecDepth 100000
set_option maxHeartbeats 4000000
set_option linter.unusedSimpArgs false
set_option linter.unusedVariables false
theorem strEq_bs (a b : List UInt8) : strEq (bs a) (bs b) = (a == b) := by
  by_cases h : a = b
  · subst h; rw [strEq_self]; simp
  · have : (a == b) = false := by simpa using h
    rw [this]
    cases e : strEq (bs a) (bs b)
    · rfl
    · exfalso
      apply h
      have := (show bs a = bs b by simpa [strEq] using e)
      exact bs_inj.1 this
theorem l03OkN_cv (r : Rom) (us : Nat → Win) (hr : (-128 ≤ r.wi ∧ r.wi ≤ 127) ∧ -128 ≤ r.hi ∧ r.hi ≤ 127) :
    CV Tryz.prog 45 [.ptr 0 0 0] [.lit [.f (.int .i8 r.wi), .f (.int .i8 r.hi), .f .nils] false] (fun v h => v = .f (.bool (vRoom r us 0)) ∧ h = [.lit [.f (.int .i8 r.wi), .f (.int .i8 r.hi), .f .nils] false]) := by
  obtain ⟨⟨_, _⟩, ⟨_, _⟩⟩ := hr
  have ev : vRoom r us 0 = (inn r.wi 1 10 && inn r.hi 1 10) := by simp [vRoom, allW]
  rw [ev]
  refine cv_of_run 1000 sc45 sb45 47 [.tmp 2] tabOk (by kernel_rfl) Tryz.func45 rfl (by kernel_rfl) Tryz.ntmps45 rfl (by simp) rfl (by simp [bdL, SV.bd]) ?_
  simp (config := { maxSteps := 1000000 }) (disch := omega) only [go_sem, Int.reduceToNat, ↓reduceIte, Nat.reduceLT, Nat.reduceEqDiff, Nat.reduceAdd, Nat.reduceMul, Nat.reduceSub, Nat.reduceBEq, Nat.reduceLeDiff, reduceCtorEq, Nat.reduceLT, ↓Br_true, ↓Br_false, bind, pure, sc45, sb45]
  repeat' (first | (with_reducible refine And.intro (by first | (unfold SOk; kernel_rfl) | (unfold SBOk; kernel_rfl) | (with_reducible assumption) | omega | assumption) ?_) | (with_reducible refine Br_intro (fun hc => ?_) (fun hc => ?_)) | ((first | (refine callR (by rfl) (by rfl) (by rfl) (rl00In_cv _ _ _) ?_; rintro _ _ ⟨rfl, rfl⟩) | (refine callM (by rfl) (by rfl) (by rfl) (rl00In_cv _ _ _) ?_; rintro _ _ ⟨rfl, rfl⟩) | (refine callMo (by rfl) (by rfl) (by rfl) (rl00In_cv _ _ _) ?_; rintro _ _ ⟨rfl, rfl⟩) | (refine callE (by rfl) (rl00In_cv _ _ _) (by rfl) ?_)); simp (config := { maxSteps := 1000000 }) (disch := omega) only [go_sem, Int.reduceToNat, ↓reduceIte, Nat.reduceLT, Nat.reduceEqDiff, Nat.reduceAdd, Nat.reduceMul, Nat.reduceSub, Nat.reduceBEq, Nat.reduceLeDiff, reduceCtorEq, Nat.reduceLT, ↓Br_true, ↓Br_false, bind, pure, sc45, sb45]) | ((with_reducible show WidN _ _ _ _ _ _ _ _); (first | refine widL (by decide) (by with_reducible assumption) ?_ | refine widL (by decide) (FWok_nn (by with_reducible assumption)) ?_ | refine widN (by decide) (fun c hc => ?_)); simp (config := { maxSteps := 1000000 }) (disch := omega) only [go_sem, Int.reduceToNat, ↓reduceIte, Nat.reduceLT, Nat.reduceEqDiff, Nat.reduceAdd, Nat.reduceMul, Nat.reduceSub, Nat.reduceBEq, Nat.reduceLeDiff, reduceCtorEq, Nat.reduceLT, ↓Br_true, ↓Br_false, bind, pure, sc45, sb45]))
  · simp_all
  · simp_all
  · simp_all
  · have e1 : inn r.wi 1 10 = true := by simp_all
    have e2 : inn r.hi 1 10 = true := by simp_all
    rw [e1, e2]
    refine ⟨Nat, fun k => k = 0, fun k => 0, fun k => [(0, .ptr 0 0 0), (2, .f (.bool false)), (3, .f (.int .i64 0))], fun _ => [.lit [.f (.int .i8 r.wi), .f (.int .i8 r.hi), .f .nils] false], 0, (by intro _; simp), ?_, (by (try refine Or.inl ?_); simp [Cov, covE, covH, cb_dead, cb_lit, cb_rows, cb_cells, cd_lit, cd_rows, cd_cells, cd_dead, covRow, look, SV.known, SV.bd, bdL] <;> omega), ?_⟩
    · rfl
    · rintro k rfl
      have hd : decide ((0 : Int) < 0) = false := by decide
      simp (config := { maxSteps := 1000000 }) (disch := omega) only [go_sem, Int.reduceToNat, ↓reduceIte, Nat.reduceLT, Nat.reduceEqDiff, Nat.reduceAdd, Nat.reduceMul, Nat.reduceSub, Nat.reduceBEq, Nat.reduceLeDiff, reduceCtorEq, Nat.reduceLT, ↓Br_true, ↓Br_false, bind, pure, sc45, sb45, hd]
      all_goals rfl
theorem ValidRoomN_cv (r : Rom) (us : Nat → Win) (hr : (-128 ≤ r.wi ∧ r.wi ≤ 127) ∧ -128 ≤ r.hi ∧ r.hi ≤ 127) :
    CV Tryz.prog 19 [.agg [.f (.int .i8 r.wi), .f (.int .i8 r.hi), .f .nils]] [] (fun v h => v = .f (.bool (vRoom r us 0)) ∧ h = []) := by
  obtain ⟨⟨_, _⟩, ⟨_, _⟩⟩ := hr
  have ev : vRoom r us 0 = (inn r.wi 1 10 && inn r.hi 1 10) := by simp [vRoom, allW]
  rw [ev]
  refine cv_of_run 1000 sc19 sb19 34 [.tmp 2] tabOk (by kernel_rfl) Tryz.func19 rfl (by kernel_rfl) Tryz.ntmps19 rfl (by simp) rfl (by simp [bdL, SV.bd]) ?_
  simp (config := { maxSteps := 1000000 }) (disch := omega) only [go_sem, Int.reduceToNat, ↓reduceIte, Nat.reduceLT, Nat.reduceEqDiff, Nat.reduceAdd, Nat.reduceMul, Nat.reduceSub, Nat.reduceBEq, Nat.reduceLeDiff, reduceCtorEq, Nat.reduceLT, ↓Br_true, ↓Br_false, bind, pure, sc19, sb19]
  repeat' (first | (with_reducible refine And.intro (by first | (unfold SOk; kernel_rfl) | (unfold SBOk; kernel_rfl) | (with_reducible assumption) | omega | assumption) ?_) | (with_reducible refine Br_intro (fun hc => ?_) (fun hc => ?_)) | ((first | (refine callR (by rfl) (by rfl) (by rfl) (rwithin_cv _ _ _) ?_; rintro _ _ ⟨rfl, rfl⟩) | (refine callM (by rfl) (by rfl) (by rfl) (rwithin_cv _ _ _) ?_; rintro _ _ ⟨rfl, rfl⟩) | (refine callMo (by rfl) (by rfl) (by rfl) (rwithin_cv _ _ _) ?_; rintro _ _ ⟨rfl, rfl⟩) | (refine callE (by rfl) (rwithin_cv _ _ _) (by rfl) ?_)); simp (config := { maxSteps := 1000000 }) (disch := omega) only [go_sem, Int.reduceToNat, ↓reduceIte, Nat.reduceLT, Nat.reduceEqDiff, Nat.reduceAdd, Nat.reduceMul, Nat.reduceSub, Nat.reduceBEq, Nat.reduceLeDiff, reduceCtorEq, Nat.reduceLT, ↓Br_true, ↓Br_false, bind, pure, sc19, sb19]) | ((with_reducible show WidN _ _ _ _ _ _ _ _); (first | refine widL (by decide) (by with_reducible assumption) ?_ | refine widL (by decide) (FWok_nn (by with_reducible assumption)) ?_ | refine widN (by decide) (fun c hc => ?_)); simp (config := { maxSteps := 1000000 }) (disch := omega) only [go_sem, Int.reduceToNat, ↓reduceIte, Nat.reduceLT, Nat.reduceEqDiff, Nat.reduceAdd, Nat.reduceMul, Nat.reduceSub, Nat.reduceBEq, Nat.reduceLeDiff, reduceCtorEq, Nat.reduceLT, ↓Br_true, ↓Br_false, bind, pure, sc19, sb19]))
  · simp_all
  · simp_all
  · simp_all
  · have e1 : inn r.wi 1 10 = true := by simp_all
    have e2 : inn r.hi 1 10 = true := by simp_all
    rw [e1, e2]
    refine ⟨Nat, fun k => k = 0, fun k => 0, fun k => [(1, .ptr 0 0 0), (2, .f (.bool false)), (24, .f .nils), (25, .f (.int .i64 0)), (26, .f (.int .i64 0))], fun _ => [.lit [.f (.int .i8 r.wi), .f (.int .i8 r.hi), .f .nils] true], 0, (by intro _; simp), ?_, (by (try refine Or.inl ?_); simp [Cov, covE, covH, cb_dead, cb_lit, cb_rows, cb_cells, cd_lit, cd_rows, cd_cells, cd_dead, covRow, look, SV.known, SV.bd, bdL] <;> omega), ?_⟩
    · rfl
    · rintro k rfl
      have hd : decide ((0 : Int) < 0) = false := by decide
      simp (config := { maxSteps := 1000000 }) (disch := omega) only [go_sem, Int.reduceToNat, ↓reduceIte, Nat.reduceLT, Nat.reduceEqDiff, Nat.reduceAdd, Nat.reduceMul, Nat.reduceSub, Nat.reduceBEq, Nat.reduceLeDiff, reduceCtorEq, Nat.reduceLT, ↓Br_true, ↓Br_false, bind, pure, sc19, sb19, hd]
      all_goals rfl
/-- The text of a room without windows. -/
theorem RoomTextN_cv (r : Rom) (us : Nat → Win) (hr : (-128 ≤ r.wi ∧ r.wi ≤ 127) ∧ -128 ≤ r.hi ∧ r.hi ≤ 127) :
    CV Tryz.prog 8 [.agg [.f (.int .i8 r.wi), .f (.int .i8 r.hi), .f .nils]] [] (fun v h => v = .f (.str (bs (romS r us 0))) ∧ h = []) := by
  have cv := ValidRoomN_cv r us hr
  obtain ⟨⟨_, _⟩, ⟨_, _⟩⟩ := hr
  cases hv : vRoom r us 0
  all_goals rw [hv] at cv
  · refine cv_of_run 1000 sc8 sb8 48 [.tmp 2] tabOk (by kernel_rfl) Tryz.func8 rfl (by kernel_rfl) Tryz.ntmps8 rfl (by simp) rfl (by simp [bdL, SV.bd]) ?_
    simp (config := { maxSteps := 1000000 }) (disch := omega) only [go_sem, Int.reduceToNat, ↓reduceIte, Nat.reduceLT, Nat.reduceEqDiff, Nat.reduceAdd, Nat.reduceMul, Nat.reduceSub, Nat.reduceBEq, Nat.reduceLeDiff, reduceCtorEq, Nat.reduceLT, ↓Br_true, ↓Br_false, bind, pure, sc8, sb8, hv]
    repeat' (first | (with_reducible refine And.intro (by first | (unfold SOk; kernel_rfl) | (unfold SBOk; kernel_rfl) | (with_reducible assumption) | omega | assumption) ?_) | (with_reducible refine Br_intro (fun hc => ?_) (fun hc => ?_)) | ((have cc := cv; (first | ((first | refine callR (by rfl) (by rfl) (by rfl) cc ?_ | refine callM (by rfl) (by rfl) (by rfl) cc ?_ | refine callMo (by rfl) (by rfl) (by rfl) cc ?_); clear cc; rintro _ _ ⟨rfl, rfl⟩) | (refine callE (by rfl) cc (by rfl) ?_; clear cc))); simp (config := { maxSteps := 1000000 }) (disch := omega) only [go_sem, Int.reduceToNat, ↓reduceIte, Nat.reduceLT, Nat.reduceEqDiff, Nat.reduceAdd, Nat.reduceMul, Nat.reduceSub, Nat.reduceBEq, Nat.reduceLeDiff, reduceCtorEq, Nat.reduceLT, ↓Br_true, ↓Br_false, bind, pure, sc8, sb8, hv]) | ((with_reducible show WidN _ _ _ _ _ _ _ _); (first | refine widL (by decide) (by with_reducible assumption) ?_ | refine widL (by decide) (FWok_nn (by with_reducible assumption)) ?_ | refine widN (by decide) (fun c hc => ?_)); simp (config := { maxSteps := 1000000 }) (disch := omega) only [go_sem, Int.reduceToNat, ↓reduceIte, Nat.reduceLT, Nat.reduceEqDiff, Nat.reduceAdd, Nat.reduceMul, Nat.reduceSub, Nat.reduceBEq, Nat.reduceLeDiff, reduceCtorEq, Nat.reduceLT, ↓Br_true, ↓Br_false, bind, pure, sc8, sb8, hv]))
    simp [romS, hv]
  · obtain ⟨hz, h12, hw⟩ := vRoom_at hv
    have c1 := decimal_cv r.wi (by have := hz.1; omega) (by have := hz.1; omega)
    have c2 := decimal_cv r.hi (by have := hz.2; omega) (by have := hz.2; omega)
    have l1 := Lib.itoa_length_le r.wi (by have := hz.1; omega) (by have := hz.1; omega)
    have l2 := Lib.itoa_length_le r.hi (by have := hz.2; omega) (by have := hz.2; omega)
    have a1 := bs_add (Lib.itoa r.wi) [120]
    have a2 := bs_add (Lib.itoa r.wi ++ [120]) (Lib.itoa r.hi)
    have a3 : bs (Lib.itoa r.wi ++ [120] ++ Lib.itoa r.hi) ++ bs [10] = bs (headT r) := bs_add _ _
    have a4 : (Lib.itoa r.wi ++ [120] ++ Lib.itoa r.hi).length ≤ 43 := by simp; omega
    refine cv_of_run 1000 sc8 sb8 48 [.tmp 2] tabOk (by kernel_rfl) Tryz.func8 rfl (by kernel_rfl) Tryz.ntmps8 rfl (by simp) rfl (by simp [bdL, SV.bd]) ?_
    simp (config := { maxSteps := 1000000 }) (disch := omega) only [go_sem, Int.reduceToNat, ↓reduceIte, Nat.reduceLT, Nat.reduceEqDiff, Nat.reduceAdd, Nat.reduceMul, Nat.reduceSub, Nat.reduceBEq, Nat.reduceLeDiff, reduceCtorEq, Nat.reduceLT, ↓Br_true, ↓Br_false, bind, pure, sc8, sb8, hv]
    repeat' (first | (with_reducible refine And.intro (by first | (unfold SOk; kernel_rfl) | (unfold SBOk; kernel_rfl) | (with_reducible assumption) | omega | assumption) ?_) | (with_reducible refine Br_intro (fun hc => ?_) (fun hc => ?_)) | ((have cc := cv; (first | ((first | refine callR (by rfl) (by rfl) (by rfl) cc ?_ | refine callM (by rfl) (by rfl) (by rfl) cc ?_ | refine callMo (by rfl) (by rfl) (by rfl) cc ?_); clear cc; rintro _ _ ⟨rfl, rfl⟩) | (refine callE (by rfl) cc (by rfl) ?_; clear cc))); simp (config := { maxSteps := 1000000 }) (disch := omega) only [go_sem, Int.reduceToNat, ↓reduceIte, Nat.reduceLT, Nat.reduceEqDiff, Nat.reduceAdd, Nat.reduceMul, Nat.reduceSub, Nat.reduceBEq, Nat.reduceLeDiff, reduceCtorEq, Nat.reduceLT, ↓Br_true, ↓Br_false, bind, pure, sc8, sb8, hv, a1, a2, a3, List.length_append]) | ((have cc := c1; (first | ((first | refine callR (by rfl) (by rfl) (by rfl) cc ?_ | refine callM (by rfl) (by rfl) (by rfl) cc ?_ | refine callMo (by rfl) (by rfl) (by rfl) cc ?_); clear cc; rintro _ _ ⟨rfl, rfl⟩) | (refine callE (by rfl) cc (by rfl) ?_; clear cc))); simp (config := { maxSteps := 1000000 }) (disch := omega) only [go_sem, Int.reduceToNat, ↓reduceIte, Nat.reduceLT, Nat.reduceEqDiff, Nat.reduceAdd, Nat.reduceMul, Nat.reduceSub, Nat.reduceBEq, Nat.reduceLeDiff, reduceCtorEq, Nat.reduceLT, ↓Br_true, ↓Br_false, bind, pure, sc8, sb8, hv, a1, a2, a3, List.length_append]) | ((have cc := c2; (first | ((first | refine callR (by rfl) (by rfl) (by rfl) cc ?_ | refine callM (by rfl) (by rfl) (by rfl) cc ?_ | refine callMo (by rfl) (by rfl) (by rfl) cc ?_); clear cc; rintro _ _ ⟨rfl, rfl⟩) | (refine callE (by rfl) cc (by rfl) ?_; clear cc))); simp (config := { maxSteps := 1000000 }) (disch := omega) only [go_sem, Int.reduceToNat, ↓reduceIte, Nat.reduceLT, Nat.reduceEqDiff, Nat.reduceAdd, Nat.reduceMul, Nat.reduceSub, Nat.reduceBEq, Nat.reduceLeDiff, reduceCtorEq, Nat.reduceLT, ↓Br_true, ↓Br_false, bind, pure, sc8, sb8, hv, a1, a2, a3, List.length_append]) | ((with_reducible show WidN _ _ _ _ _ _ _ _); (first | refine widL (by decide) (by with_reducible assumption) ?_ | refine widL (by decide) (FWok_nn (by with_reducible assumption)) ?_ | refine widN (by decide) (fun c hc => ?_)); simp (config := { maxSteps := 1000000 }) (disch := omega) only [go_sem, Int.reduceToNat, ↓reduceIte, Nat.reduceLT, Nat.reduceEqDiff, Nat.reduceAdd, Nat.reduceMul, Nat.reduceSub, Nat.reduceBEq, Nat.reduceLeDiff, reduceCtorEq, Nat.reduceLT, ↓Br_true, ↓Br_false, bind, pure, sc8, sb8, hv, a1, a2, a3, List.length_append]))
    refine ⟨Nat, fun k => k = 0, fun k => 0, fun k => [(2, .f (.str (bs []))), (3, .f (.str (bs (headT r)))), (21, .f .nils), (22, .f (.int .i64 0)), (23, .f (.int .i64 0))], fun _ => [.lit [.f (.int .i8 r.wi), .f (.int .i8 r.hi), .f .nils] true], 0, (by intro _; simp), ?_, (by (try refine Or.inl ?_); simp [Cov, covE, covH, cb_dead, cb_lit, cb_rows, cb_cells, cd_lit, cd_rows, cd_cells, cd_dead, covRow, look, SV.known, SV.bd, bdL] <;> omega), ?_⟩
    · rfl
    · rintro k rfl
      have hd : decide ((0 : Int) < 0) = false := by decide
      simp (config := { maxSteps := 1000000 }) (disch := omega) only [go_sem, Int.reduceToNat, ↓reduceIte, Nat.reduceLT, Nat.reduceEqDiff, Nat.reduceAdd, Nat.reduceMul, Nat.reduceSub, Nat.reduceBEq, Nat.reduceLeDiff, reduceCtorEq, Nat.reduceLT, ↓Br_true, ↓Br_false, bind, pure, sc8, sb8, hd]
      simp [romS, hv, romT, winsT]
end Go.Proofs.YtjhddlkfkicpaaaGreatDoor.Vx
