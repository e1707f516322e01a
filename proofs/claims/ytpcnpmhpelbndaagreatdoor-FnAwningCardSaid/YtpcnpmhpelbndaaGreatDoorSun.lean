/- Suns: a struct of two arrays of 24 integers, by value and in memory; walks. -/
import Derived.Test.YtpcnpmhpelbndaaGreatDoorN
namespace Go.Proofs.YtpcnpmhpelbndaaGreatDoor
set_option linter.unusedSimpArgs false
set_option linter.unusedVariables false
open Go.ChangeShapes Go.WideShapes Go.ChangeAt Go.RowKit Fl

/-- n integers of 16 bits. -/
def ints (n : Nat) (s : Nat → Int) : List Value := (List.range n).map fun i => .int .i16 (s i)
theorem ints_length (n : Nat) (s : Nat → Int) : (ints n s).length = n := by simp [ints]
theorem ints_size (n : Nat) (s : Nat → Int) : (ints n s).toArray.size = n := by simp [ints]
theorem ints_get {n i : Nat} (s : Nat → Int) (h : i < n) : (ints n s)[i]? = some (.int .i16 (s i)) := by simp [ints, h]
theorem ints_of {n : Nat} {l : List Value} (h : CKs (List.replicate n (.i .i16)) l) : ∃ s : Nat → Int, l = ints n s ∧ ∀ i, -32768 ≤ s i ∧ s i ≤ 32767 := by
  have hl := h.length
  rw [List.length_replicate] at hl
  have key : ∀ i, i < n → ∃ k : Int, l[i]? = some (.int .i16 k) ∧ (-32768 ≤ k ∧ k ≤ 32767) := fun i hi => by
    obtain ⟨v, hv, ok⟩ := h.get i (.i .i16) (by simp [hi])
    obtain ⟨k, rfl, b⟩ := oki16 ok
    exact ⟨k, hv, b⟩
  refine ⟨fun i => if hi : i < n then (key i hi).choose else 0, ?_, fun i => ?_⟩
  · apply List.ext_getElem?
    intro i
    by_cases hi : i < n
    · rw [ints_get _ hi, dif_pos hi]; exact (key i hi).choose_spec.1
    · rw [List.getElem?_eq_none (by omega), List.getElem?_eq_none (by rw [ints_length]; omega)]
  · by_cases hi : i < n
    · simp only [dif_pos hi]; exact (key i hi).choose_spec.2
    · simp only [dif_neg hi]; omega

theorem infoA24 : (Tryz.prog.info? 70).map (·.size) = some 24 := by kernel_rfl
theorem sizeA24 (s : Nat → Int) : (Tryz.prog.info? 70).map (·.size) = some (ints 24 s).length := by rw [ints_length]; exact infoA24
theorem oneCell_ints (n : Nat) (s : Nat → Int) : (ints n s).toArray.all (·.oneCell') = true :=
  all_oneCell_toArray fun v hv => by
    simp only [ints, List.mem_map] at hv
    obtain ⟨i, _, rfl⟩ := hv
    rfl

theorem range_low {w : World} {b o : Nat} {s : Nat → Int} (h : w.rangeAt b o (ints 48 s)) : w.rangeAt b o (ints 24 s) := fun j v hv => by
  have hj : j < 24 := by have := (List.getElem?_eq_some_iff.1 hv).1; rwa [ints_length] at this
  rw [ints_get s hj] at hv
  exact h j v (by rw [ints_get s (by omega)]; exact hv)
theorem range_high {w : World} {b o : Nat} {s : Nat → Int} (h : w.rangeAt b o (ints 48 s)) : w.rangeAt b (o + 24) (ints 24 fun i => s (24 + i)) := fun j v hv => by
  have hj : j < 24 := by have := (List.getElem?_eq_some_iff.1 hv).1; rwa [ints_length] at this
  rw [ints_get _ hj] at hv
  rw [Nat.add_assoc]
  exact h (24 + j) v (by rw [ints_get s (by omega)]; exact hv)
theorem range_both {w : World} {b o : Nat} {s : Nat → Int} (h : w.rangeAt b o (ints 24 s)) (h' : w.rangeAt b (o + 24) (ints 24 fun i => s (24 + i))) : w.rangeAt b o (ints 48 s) := fun j v hv => by
  have hj : j < 48 := by have := (List.getElem?_eq_some_iff.1 hv).1; rwa [ints_length] at this
  rw [ints_get s hj] at hv
  by_cases c : j < 24
  · exact h j v (by rw [ints_get s c]; exact hv)
  · have := h' (j - 24) v (by rw [ints_get _ (by omega)]; simp only [show 24 + (j - 24) = j from by omega]; exact hv)
    rwa [show o + 24 + (j - 24) = o + j from by omega] at this
theorem there_high {w : World} {b o : Nat} (h : w.there b o 48) : w.there b (o + 24) 24 := fun j hj => by
  rw [Nat.add_assoc]; exact h (24 + j) (by omega)
theorem there_low {w : World} {b o : Nat} (h : w.there b o 48) : w.there b o 24 := fun j hj => h j (by omega)
theorem infoSun : (Tryz.prog.info? 72).map (·.size) = some 48 := by kernel_rfl
theorem sizeSun (s : Nat → Int) : (Tryz.prog.info? 72).map (·.size) = some (ints 48 s).length := by rw [ints_length]; exact infoSun

def sunH (s : Nat → Int) (h : Nat) : Bool := inn (s h) (-64) 64 && inn (s (24 + h)) 0 255
def vSun (s : Nat → Int) : Bool := (List.range 24).all (sunH s)
theorem vSun_no {s : Nat → Int} {k : Nat} (hk : k < 24) (h : sunH s k = false) : vSun s = false := by
  unfold vSun; rw [List.all_eq_false]; exact ⟨k, by simpa using hk, by simp [h]⟩
theorem range_all {s : Nat → Int} {k : Nat} (h : (List.range k).all (sunH s) = true) (h' : sunH s k = true) : (List.range (k + 1)).all (sunH s) = true := by
  rw [List.range_succ, List.all_append, h]; simp [h']
theorem vSun_at {s : Nat → Int} (h : vSun s = true) {k : Nat} (hk : k < 24) : (-64 ≤ s k ∧ s k ≤ 64) ∧ (0 ≤ s (24 + k) ∧ s (24 + k) ≤ 255) := by
  have := List.all_eq_true.1 h k (by simpa using hk)
  simp only [sunH, Bool.and_eq_true, inn_true] at this
  exact this
def Small (s : Nat → Int) : Prop := ∀ i, -32768 ≤ s i ∧ s i ≤ 32767
theorem ValidSun_c (s : Nat → Int) (w : World) (hs : Small s) :
    Calls Tryz.prog 162 #[.agg (ints 48 s).toArray] w fun e w' => e = .returned (.bool (vSun s)) ∧ Ext w w' := by
  have HS := Lib.hid hs
  clear hs
  go_enter Tryz.func162, Tryz.ntmps162
  go_wp2
  go_loop [4] (fun i => ∃ k : Nat, k ≤ 24 ∧ i = .int .i64 k ∧ (List.range k).all (sunH s) = true) (fun i => 24 - (intOf i).toNat)
  case atStart => exact ⟨0, by omega, rfl, rfl⟩
  case round =>
    obtain ⟨k, hk, rfl, hall⟩ := hrel
    have HA := Lib.hid hall
    clear hall
    by_cases hlt : k < 24
    · have hlt' : (k : Int) < 24 := by omega
      have g0 : (ints 48 s)[k]? = some (.int .i16 (s k)) := ints_get s (by omega)
      have g1 : (ints 48 s)[24 + k]? = some (.int .i16 (s (24 + k))) := ints_get s (by omega)
      obtain ⟨b1, b2⟩ := HS.out k
      obtain ⟨b3, b4⟩ := HS.out (24 + k)
      go_wp2_with (go_at_call 68; refine (within_c _ _ _ _).mono ?_; rintro e w' ⟨rfl, rfl⟩)
      all_goals
        first
        | (go_ret; exact ⟨by rw [vSun_no hlt (by first | (simp [sunH, *]; done) | (simp only [Bool.not_eq_true', Bool.not_eq_false'] at *; simp [sunH, *]))]; rfl, by (repeat (first | assumption | exact Below.refl _ _ | refine Below.alloc ?_ (by first | omega | (simp; done) | (simp; omega)) _ | refine Below.setCell ?_ (by first | omega | (simp; done) | (simp; omega)) _ | refine Below.drew ?_ | refine Below.trans ?_ (Below.mono (by assumption) (by first | omega | (simp; done) | (simp; omega)))))⟩)
        | (go_round
           case rel => exact ⟨k + 1, by omega, by go_num, range_all HA.out (by first | (simp [sunH, *]; done) | (simp only [Bool.not_eq_true', Bool.not_eq_false'] at *; simp [sunH, *]))⟩
           case measure => simp [intOf]; omega)
    · obtain rfl : k = 24 := by omega
      go_wp2
      go_ret
      exact ⟨by rw [show vSun s = true from HA.out]; rfl, by (repeat (first | assumption | exact Below.refl _ _ | refine Below.alloc ?_ (by first | omega | (simp; done) | (simp; omega)) _ | refine Below.setCell ?_ (by first | omega | (simp; done) | (simp; omega)) _ | refine Below.drew ?_ | refine Below.trans ?_ (Below.mono (by assumption) (by first | omega | (simp; done) | (simp; omega)))))⟩
theorem l01Ok_c (s : Nat → Int) (p o : Nat) (w : World) (hs : Small s) (hc : w.rangeAt p o (ints 48 s)) :
    Calls Tryz.prog 127 #[.pointer (some ⟨p, o, none⟩)] w fun e w' => e = .returned (.bool (vSun s)) ∧ w = w' := by
  have HS := Lib.hid hs
  have HC := Lib.hid hc
  clear hs hc
  go_enter Tryz.func127, Tryz.ntmps127
  go_wp2
  go_loop [3] (fun i => ∃ k : Nat, k ≤ 24 ∧ i = .int .i64 k ∧ (List.range k).all (sunH s) = true) (fun i => 24 - (intOf i).toNat)
  case atStart => exact ⟨0, by omega, rfl, rfl⟩
  case round =>
    obtain ⟨k, hk, rfl, hall⟩ := hrel
    have HA := Lib.hid hall
    clear hall
    by_cases hlt : k < 24
    · have hlt' : (k : Int) < 24 := by omega
      have g0 : w.cell? ⟨p, o + k, none⟩ = some (.int .i16 (s k)) := HC.out k _ (ints_get s (by omega))
      have g1 : w.cell? ⟨p, o + 24 + k, none⟩ = some (.int .i16 (s (24 + k))) := by rw [Nat.add_assoc]; exact HC.out (24 + k) _ (ints_get s (by omega))
      obtain ⟨b1, b2⟩ := HS.out k
      obtain ⟨b3, b4⟩ := HS.out (24 + k)
      go_wp2_with (first | (go_at_call 164; refine (l01Height_c _ _).mono ?_; rintro e w' ⟨rfl, rfl⟩) | (go_at_call 110; refine (l01Faced_c _ _).mono ?_; rintro e w' ⟨rfl, rfl⟩))
      all_goals
        first
        | (go_ret; exact ⟨by rw [vSun_no hlt (by first | (simp [sunH, *]; done) | (simp only [Bool.not_eq_true', Bool.not_eq_false'] at *; simp [sunH, *]))]; rfl, rfl⟩)
        | (go_round
           case rel => exact ⟨k + 1, by omega, by go_num, range_all HA.out (by first | (simp [sunH, *]; done) | (simp only [Bool.not_eq_true', Bool.not_eq_false'] at *; simp [sunH, *]))⟩
           case measure => simp [intOf]; omega)
    · obtain rfl : k = 24 := by omega
      go_wp2
      go_ret
      exact ⟨by rw [show vSun s = true from HA.out]; rfl, rfl⟩
/-- The code of a sun and of whether numbers are right. -/
def sunC (s : Nat → Int) (right : Bool) : Int := if vSun s then (if right then 0 else 2) else 1
theorem sunCode_c (s : Nat → Int) (r : Bool) (w : World) (hs : Small s) :
    Calls Tryz.prog 119 #[.agg (ints 48 s).toArray, .bool r] w fun e w' => e = .returned (.int .i64 (sunC s r)) ∧ Ext w w' := by
  have HS := Lib.hid hs
  clear hs
  cases hv : vSun s
  all_goals
    cases r
    all_goals
      go_enter Tryz.func119, Tryz.ntmps119
      go_wp2_with (first | (show wpList _ _ _ ({ dst := _, op := Op.load 72 (.tmp 2), type := _, pos := _, after := _, guard := _ } :: _) _ _; refine wpList_load_mid rfl 72 (.tmp 2) rfl w.heap.size 0 rfl (ints 48 s) _ (box_range w _ _) Tryz.underlying72 rfl (sizeSun s) ?_) | (go_at_call 162; refine (ValidSun_c s _ HS.out).mono ?_; rintro e w' ⟨rfl, hb⟩; obtain ⟨hc, hf, hz⟩ := bcell hb; (try simp at hz); (try have hz' := Nat.lt_of_succ_le hz)))
      go_ret
      exact ⟨by simp [sunC, hv], by (repeat (first | assumption | exact Below.refl _ _ | refine Below.alloc ?_ (by first | omega | (simp; done) | (simp; omega)) _ | refine Below.setCell ?_ (by first | omega | (simp; done) | (simp; omega)) _ | refine Below.drew ?_ | refine Below.trans ?_ (Below.mono (by assumption) (by first | omega | (simp; done) | (simp; omega)))))⟩
end Go.Proofs.YtpcnpmhpelbndaaGreatDoor
