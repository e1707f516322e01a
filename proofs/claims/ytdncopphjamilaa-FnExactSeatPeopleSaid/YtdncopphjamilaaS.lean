/- Walks: sameFloat of the laws; facts on numbers within bounds. -/
import Derived.Test.YtdncopphjamilaaN
import Derived.Test.YtdncopphjamilaaFd
import Derived.Test.YtdncopphjamilaaReg
namespace Go.Proofs.Ytdncopphjamilaa
set_option linter.unusedSimpArgs false
set_option linter.unusedVariables false
open Go.ChangeShapes Go.WideShapes Go.ChangeAt Go.RowKit Fl

theorem sameFloat_c (x : Nat) (w : World) :
    Calls Try.prog 144 #[.float .f64 x, .float .f64 x] w fun e w' => e = .returned (.bool true) ∧ w = w' := by
  cases h : deq x x
  · go_enter Try.func144, Try.ntmps144
    go_wp2
    all_goals (go_ret; exact ⟨by simp [h], rfl⟩)
  · cases hz : deq x 0
    · go_enter Try.func144, Try.ntmps144
      go_wp2
      all_goals (go_ret; exact ⟨by simp [h], rfl⟩)
    · have ho := one_over hz
      go_enter Try.func144, Try.ntmps144
      go_wp2
      all_goals (go_ret; exact ⟨by simp [h], rfl⟩)

theorem btw_F0 {a h : Nat} (k : btw a 0 h = true) (hh : fin h) : F0 a ∧ key a ≤ key h := by
  unfold btw at k
  simp only [Bool.and_eq_true] at k
  obtain ⟨_, n1, k1⟩ := fle_key k.1
  obtain ⟨_, n2, k2⟩ := fle_key k.2
  have hz : key 0 = 0 := by decide
  have p : P0 a := ⟨n1, by omega⟩
  exact ⟨F0_of_le p hh k2, k2⟩
theorem btw_P {a l h : Nat} (k : btw a l h = true) (hl : fin l) (hh : fin h) : fin a ∧ key l ≤ key a ∧ key a ≤ key h := by
  unfold btw at k
  simp only [Bool.and_eq_true] at k
  obtain ⟨_, n1, k1⟩ := fle_key k.1
  obtain ⟨_, n2, k2⟩ := fle_key k.2
  have := fin_key hl; have := fin_key hh
  exact ⟨fin_of_key n1 (by omega) (by omega), k1, k2⟩
theorem isPart_F0 {a : Nat} (h : isPart a = true) : F0 a ∧ key a ≤ key 1065353216 := btw_F0 h (by decide)
theorem isFine_F0 {a : Nat} (h : isFineF a = true) : F0 a := by
  unfold isFineF isPlain at h
  simp only [Bool.and_eq_true] at h
  obtain ⟨f, _, _⟩ := btw_P h.1 (by decide) (by decide)
  obtain ⟨_, _, k⟩ := fle_key h.2
  have hz : key 0 = 0 := by decide
  exact ⟨f, by omega⟩

/-- The strain of a gust. -/
def strainF (out gust : Nat) : Nat := fmul (fmul out out) gust
theorem strain_ok {out gust : Nat} (ho : F0 out) (hk : key out ≤ key 1090519040) (hg : F0 gust) :
    MulOk out out ∧ MulOk (fmul out out) gust ∧ nn (strainF out gust) := by
  obtain ⟨m1, p1⟩ := mul_F0 ho ho
  have h8 : F0 1090519040 := ⟨by decide, by decide⟩
  have k1 := mul_mono ho ho h8 h8 hk hk
  have f64 : fin (fmul 1090519040 1090519040) := by decide
  have f1 := F0_of_le p1 f64 k1
  obtain ⟨m2, p2⟩ := mul_F0 f1 hg
  exact ⟨m1, m2, p2.1⟩

theorem strain_c (out gust : Nat) (w : World) (h1 : MulOk out out) (h2 : MulOk (fmul out out) gust) :
    Calls Try.prog 135 #[.float .f32 out, .float .f32 gust] w fun e w' => e = .returned (.float .f32 (strainF out gust)) ∧ w = w' := by
  go_enter Try.func135, Try.ntmps135
  go_wp2
  go_ret
  exact ⟨rfl, rfl⟩
theorem l04Strain_c (out gust : Nat) (w : World) (h1 : MulOk out out) (h2 : MulOk (fmul out out) gust) :
    Calls Try.prog 136 #[.float .f32 out, .float .f32 gust] w fun e w' => e = .returned (.float .f32 (strainF out gust)) ∧ w = w' := by
  go_enter Try.func136, Try.ntmps136
  go_wp2
  go_ret
  exact ⟨rfl, rfl⟩

end Go.Proofs.Ytdncopphjamilaa
