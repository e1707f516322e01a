/- Whole numbers and parts of lines that are read. -/
import Derived.Test.YtjhddlkfkicpaaaGreatDoorTk
import Derived.Test.YtjhddlkfkicpaaaGreatDoorTr
namespace Go.Proofs.YtjhddlkfkicpaaaGreatDoor.Vx
set_option linter.unusedSimpArgs false
set_option linter.unusedVariables false
open Go Go.RowKit Fl
set_option maxRecDepth 100000
set_option maxHeartbeats 4000000
set_option linter.unusedSimpArgs false
set_option linter.unusedVariables false
/-- What strconv.ParseInt gives of a text. -/
def whV (s : List UInt8) : Int :=
  match Lib.parseIntB 64 s with
  | .ok v => v
  | .syntax => 0
  | .range => Lib.intSat 64 s
def whB (s : List UInt8) : Bool :=
  match Lib.parseIntB 64 s with
  | .ok v => Lib.itoa v == s
  | _ => false
theorem whB_eq {s : List UInt8} (h : whB s = true) : s = Lib.itoa (whV s) := by
  unfold whB at h
  unfold whV
  split at h
  · rename_i v e; rw [e]; simpa using (beq_iff_eq.1 h).symm
  · cases h
theorem pI_bd {s : List UInt8} {v : Int} (h : Lib.parseIntB 64 s = .ok v) : -9223372036854775808 ≤ v ∧ v ≤ 9223372036854775807 := by
  unfold Lib.parseIntB at h
  split at h
  · cases h
  · simp only at h
    split at h
    · cases h
    · cases h
    · rename_i u _
      split at h
      · cases h
      · split at h
        · cases h
        · rename_i c1 c2
          simp only [Lib.NumEnd.ok.injEq] at h
          split at h
          · rename_i hneg
            have : ¬ (2 ^ (64 - 1) < u) := fun c => c2 ⟨hneg, c⟩
            have e : (2 : Nat) ^ (64 - 1) = 9223372036854775808 := rfl
            omega
          · rename_i hneg
            have : ¬ (2 ^ (64 - 1) ≤ u) := fun c => c1 ⟨hneg, c⟩
            have e : (2 : Nat) ^ (64 - 1) = 9223372036854775808 := rfl
            omega
theorem whV_bd (s : List UInt8) : -9223372036854775808 ≤ whV s ∧ whV s ≤ 9223372036854775807 := by
  unfold whV
  split
  · rename_i v e; exact pI_bd e
  · omega
  · unfold Lib.intSat; split <;> simp
def pI_one (k : Nat) : Bool := Lib.parseIntB 64 (if k < 10 then [UInt8.ofNat (48 + k)] else [49, 48]) == .ok (k : Int)
theorem itoa_small {k : Nat} (h : k ≤ 10) : Lib.itoa (k : Int) = if k < 10 then [UInt8.ofNat (48 + k)] else [49, 48] := by
  rw [Lib.itoa_nonneg]
  split
  · rename_i c; exact Lib.decDigits_one c
  · obtain rfl : k = 10 := by omega
    rw [Lib.decDigits_two (by omega) (by omega)]; rfl
theorem pI_small : ∀ k, k ≤ 10 → Lib.parseIntB 64 (if k < 10 then [UInt8.ofNat (48 + k)] else [49, 48]) = .ok (k : Int) := by decide +kernel
theorem wh_small {k : Nat} (h : k ≤ 10) : whV (Lib.itoa (k : Int)) = k ∧ whB (Lib.itoa (k : Int)) = true := by
  have e := pI_small k h
  rw [← itoa_small h] at e
  unfold whV whB
  rw [e]
  exact ⟨rfl, by simp⟩
def whR (s : List UInt8) : Value := .tuple #[.int .i64 (whV s), .bool (whB s)]
theorem decimal_c (n : Int) (h0 : -9223372036854775808 ≤ n) (h1 : n ≤ 9223372036854775807) (w : World) (hg : Gl w) : Calls Tryz.prog 40 #[.int .i64 n] w fun e w' => e = .returned (.string (bs (Lib.itoa n))) ∧ Below w.heap.size w w' :=
  Calls.mono ((decimal_cv n h0 h1).calls w _ (holds_nil w (fun _ => ⟨0, 0, 1, false⟩) hg)) fun e w' ⟨v, hh, β', he, ⟨hv, hq⟩, _, s, _⟩ => ⟨by rw [he, hv]; rfl, s.below fun l => rfl⟩
theorem readWhole_c (t : List UInt8) (ht : t.length ≤ 1048576) (w : World) (hg : Gl w) : Calls Tryz.prog 36 #[.string (bs t)] w fun e w' => e = .returned (whR t) ∧ Ext w w' := by
  have hsz := bs_size t
  have eP := (enters_of Tryz.func70 (by kernel_rfl) (by kernel_rfl))
  have eD := (enters_of Tryz.func40 (by kernel_rfl) (by kernel_rfl))
  cases hp : Lib.parseIntB 64 t with
  | ok v =>
    have hv : whV t = v := by unfold whV; rw [hp]
    have hb := pI_bd hp
    go_enter Tryz.func36, Tryz.ntmps36
    go_wp2_with (go_at_call 70; refine (Any.strconv_ParseInt_10_at64_ok Tryz.laysC174 (bs t) (by omega) v (by rw [bs_list]; exact hp) w).mono ?_)
    rintro e W1 ⟨rfl, hW⟩
    have hb1 : Below w.heap.size w W1 := by
      rcases hW with rfl | ⟨t', rfl⟩
      · exact Below.refl _ _
      · exact Lib.bytesWorld_below _ _ _
    have hg1 := hg.ext hb1
    clear hW
    by_cases he : Lib.itoa v = t
    · have hB : whB t = true := by unfold whB; rw [hp]; simpa using he
      have ebs : bs (Lib.itoa v) = bs t := by rw [he]
      go_wp2_with (go_at_call 40; refine (decimal_c v hb.1 hb.2 W1 hg1).mono ?_; rintro e W2 ⟨rfl, hb2⟩)
      all_goals go_ret2
      all_goals exact ⟨by simp [whR, hv, hB], hb1.trans (hb2.mono hb1.size)⟩
    · have hB : whB t = false := by unfold whB; rw [hp]; simpa using he
      have ebs : (Lib.itoa v == t) = false := by simpa using he
      go_wp2_with (go_at_call 40; refine (decimal_c v hb.1 hb.2 W1 hg1).mono ?_; rintro e W2 ⟨rfl, hb2⟩)
      all_goals go_ret2
      all_goals exact ⟨by simp [whR, hv, hB, ebs], hb1.trans (hb2.mono hb1.size)⟩
  | «syntax» =>
    have hv : whV t = 0 := by unfold whV; rw [hp]
    have hB : whB t = false := by unfold whB; rw [hp]
    obtain ⟨te, pe, hev⟩ := hg.2.es
    go_enter Tryz.func36, Tryz.ntmps36
    go_wp2_with (go_at_call 70; refine (Any.strconv_ParseInt_10_at64_syntax Tryz.laysC174 (bs t) (by omega) (by rw [bs_list]; exact hp) _ w hev (.inr ⟨te, pe, rfl⟩)).mono ?_)
    rintro e W1 ⟨N, rfl, _, _, hb1⟩
    go_wp2
    all_goals go_ret2
    all_goals exact ⟨by simp [whR, hv, hB], hb1⟩
  | range =>
    have hv : whV t = Lib.intSat 64 t := by unfold whV; rw [hp]
    have hB : whB t = false := by unfold whB; rw [hp]
    obtain ⟨te, pe, hev⟩ := hg.2.er
    obtain ⟨q, hq⟩ : ∃ q, q = Lib.intSat 64 t := ⟨_, rfl⟩
    have hR : Calls Tryz.prog 70 #[.string (bs t), .int .i64 10, .int .i64 64] w fun e w' => ∃ tp N, e = .returned (.tuple #[.int .i64 q, .iface tp (.pointer (some ⟨N, 0, none⟩))]) ∧ Below w.heap.size w w' :=
      (Any.strconv_ParseInt_10_at64_range Tryz.laysC174 (bs t) (by omega) (by rw [bs_list]; exact hp) _ w hev (.inr ⟨te, pe, rfl⟩)).mono fun e w' ⟨N, he, _, _, hb⟩ => by rw [hq]; exact ⟨_, N, he, hb⟩
    rw [← hq] at hv
    clear hq
    go_enter Tryz.func36, Tryz.ntmps36
    go_wp2_with (go_at_call 70; refine hR.mono ?_)
    rintro e W1 ⟨tp, N, rfl, hb1⟩
    go_wp2
    all_goals go_ret2
    all_goals exact ⟨by simp [whR, hv, hB], hb1⟩
theorem readWhole_cv (t : List UInt8) (ht : t.length ≤ 1048576) :
    CV Tryz.prog 36 [.f (.str (bs t))] [] (fun v h => v = .tup [.f (.int .i64 (whV t)), .f (.bool (whB t))] ∧ h = []) :=
  CV.old (by simp [SV.bd, bdL]) (enters_of Tryz.func36 (by kernel_rfl) (by kernel_rfl)) fun w β H => readWhole_c t ht w H.gl
/-- A text cut at the first of a byte. -/
def ctA (c : UInt8) (s : List UInt8) : List UInt8 := (Lib.cut s [c]).1
def ctB (c : UInt8) (s : List UInt8) : List UInt8 := (Lib.cut s [c]).2.1
theorem Cut_cv (t : List UInt8) (c : UInt8) (ht : t.length ≤ 1048576) :
    CV Tryz.prog 35 [.f (.str (bs t)), .f (.str (bs [c]))] [] (fun v h => v = .tup [.f (.str (bs (ctA c t))), .f (.str (bs (ctB c t))), .f (.bool (Lib.cut t [c]).2.2)] ∧ h = []) :=
  CV.old (by simp [SV.bd, bdL]) (enters_of Tryz.func35 (by kernel_rfl) (by kernel_rfl)) fun w β H => by
    obtain ⟨m, hm⟩ := H.gl.2.ml
    refine (Any.strings_Cut Tryz.lays145 (bs t) (bs [c]) m w (by rw [bs_size]; omega) hm).mono fun e w' ⟨he, n, hw⟩ => ⟨?_, ?_⟩
    · rw [he]; simp [den, denL, FV.val, ctA, ctB]
    · rw [hw]; exact ⟨rfl, rfl, rfl, Nat.le_refl _, fun _ _ => rfl⟩
theorem IndexByte_cv (c : UInt8) :
    CV Tryz.prog 39 [.f (.str (bs [110, 101, 115, 119])), .f (.int .u8 c.toNat)] [] (fun v h => v = .f (.int .i64 (Lib.indexByte [110, 101, 115, 119] c)) ∧ h = []) :=
  CV.old0 trivial (enters_of Tryz.func39 (by kernel_rfl) (by kernel_rfl)) fun w β H => (Any.strings_IndexByte Tryz.lays137 (bs [110, 101, 115, 119]) c.toNat w).mono fun e w' ⟨he, hw⟩ => ⟨by rw [he]; simp [den, FV.val, bs], hw.symm⟩
end Go.Proofs.YtjhddlkfkicpaaaGreatDoor.Vx
