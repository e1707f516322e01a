/- Sines, in the abstract; bounds of quotients and sines. -/
import Derived.Test.YtdncopphjamilaaVt
import Derived.Test.YtdncopphjamilaaSin
namespace Go.Proofs.Ytdncopphjamilaa.Vx
set_option linter.unusedSimpArgs false
set_option linter.unusedVariables false
open Go Go.RowKit Fl
set_option maxRecDepth 100000
set_option linter.unusedSimpArgs false
set_option linter.unusedVariables false

theorem mul_unit {a b : Nat} (ha : fin a ∧ -(key 1065353216) ≤ key a ∧ key a ≤ key 1065353216) (hb : fin b ∧ -(key 1065353216) ≤ key b ∧ key b ≤ key 1065353216) :
    MulOk a b ∧ nn (fmul a b) := ⟨(mul_fin ha.1 hb.1).1, (mul_fin ha.1 hb.1).2.2⟩
theorem CosineOf_cv (a : Int) (h : List Blk) (h1 : -1000000 ≤ a) (h2 : a ≤ 1000000) : CV Try.prog 162 [.f (.int .i64 a)] h (fun v hh => v = .f (.flt .f32 (cosF a)) ∧ hh = h) :=
  CV.old0 trivial (enters_of Try.func162 (by kernel_rfl) (by kernel_rfl)) fun w β _ => CosineOf_c a w h1 h2
theorem l01Cosine_cv (a : Int) (h : List Blk) (h1 : -1000000 ≤ a) (h2 : a ≤ 1000000) : CV Try.prog 180 [.f (.int .i64 a)] h (fun v hh => v = .f (.flt .f32 (cosF a)) ∧ hh = h) :=
  CV.old0 trivial (enters_of Try.func180 (by kernel_rfl) (by kernel_rfl)) fun w β _ => l01Cosine_c a w h1 h2
theorem SineOf_cv (a : Int) (h : List Blk) (h1 : -1000000 ≤ a) (h2 : a ≤ 1000000) : CV Try.prog 176 [.f (.int .i64 a)] h (fun v hh => v = .f (.flt .f32 (sineF a)) ∧ hh = h) :=
  CV.old0 trivial (enters_of Try.func176 (by kernel_rfl) (by kernel_rfl)) fun w β _ => SineOf_c a w h1 h2
theorem l01Sine_cv (a : Int) (h : List Blk) (h1 : -1000000 ≤ a) (h2 : a ≤ 1000000) : CV Try.prog 184 [.f (.int .i64 a)] h (fun v hh => v = .f (.flt .f32 (sineF a)) ∧ hh = h) :=
  CV.old0 trivial (enters_of Try.func184 (by kernel_rfl) (by kernel_rfl)) fun w β _ => l01Sine_c a w h1 h2
theorem Q_anti {a b b' : Nat} (h0 : 0 < b) (h : b ≤ b') : Q a b' ≤ Q a b := by
  unfold Q
  apply R_mono
  generalize a * 2 ^ far = u
  have hq : u / b' ≤ u / b := Nat.div_le_div_left h h0
  rcases Nat.lt_or_eq_of_le hq with hlt | heq
  · split <;> split <;> omega
  · have eu := Nat.div_add_mod u b
    have ev := Nat.div_add_mod u b'
    split
    · split <;> omega
    · rename_i c
      split
      · rename_i d
        exfalso
        rw [d] at eu
        rw [heq] at ev
        have : b * (u / b) ≤ b' * (u / b) := Nat.mul_le_mul_right _ h
        omega
      · omega
theorem div_anti {x y y' : Nat} (hx : F0 x) (hy : fin y) (hy' : fin y') (h : 0 < key y) (k : key y ≤ key y') : key (fdiv x y') ≤ key (fdiv x y) := by
  rw [key_div_pos hx hy h, key_div_pos hx hy' (by omega)]
  have r1 := rung_of (Int.le_of_lt h)
  have r2 := rung_of (x := y') (by omega)
  have := Q_anti (a := MAG (rung x)) (MAG_pos hy h) ((MAG_le hy hy').2 (by omega))
  omega
theorem one_le {n : Nat} (h0 : 1 ≤ n) (h : n ≤ 64) : key 1019804380 ≤ key (quart n) := by
  have : ((List.range 65).all fun n => n == 0 || decide (key 1019804380 ≤ key (quart n))) = true := by decide +kernel
  have := List.all_eq_true.1 this n (by simp; omega)
  simpa [show n ≠ 0 by omega] using this
theorem quart_F0 {n : Nat} (h : n ≤ 64) : F0 (quart n) ∧ key (quart n) ≤ key 1065353216 := by
  have := quart_ok h
  exact ⟨this.pos, this.one⟩
theorem quart_zero : quart 0 = 0 := by decide +kernel
theorem sinN_pos {r : Nat} (h : r < 256) (hk : 0 < key (sinN r)) : ∃ j, 1 ≤ j ∧ j ≤ 64 ∧ sinN r = quart j := by
  have k0 : key 0 = 0 := by decide
  have no : ∀ n, n ≤ 64 → sinN r = quart n → ∃ j, 1 ≤ j ∧ j ≤ 64 ∧ sinN r = quart j := fun n hn e => by
    refine ⟨n, ?_, hn, e⟩
    rcases Nat.eq_zero_or_pos n with z | z
    · rw [e, z, quart_zero, k0] at hk; omega
    · exact z
  have neg : ∀ n, n ≤ 64 → sinN r = fsub 0 (quart n) → False := fun n hn e => by
    have q := quart_ok hn
    rw [e, q.kneg] at hk
    have := q.pos.2
    omega
  by_cases c1 : r ≤ 64
  · exact no r c1 (by simp [sinN, c1])
  · by_cases c2 : r ≤ 128
    · exact no (128 - r) (by omega) (by simp [sinN, c1, c2])
    · by_cases c3 : r ≤ 192
      · exact (neg (r - 128) (by omega) (by simp [sinN, c1, c2, c3])).elim
      · exact (neg (256 - r) (by omega) (by simp [sinN, c1, c2, c3])).elim
theorem cos_up {n : Nat} (h : n ≤ 64) : cosF (n : Int) = quart (64 - n) := by
  have e1 : ang (n : Int) = n := ang_id (by omega)
  have e2 : ang ((n : Int) + 64) = n + 64 := by have := ang_id (n := n + 64) (by omega); push_cast at this; exact this
  unfold cosF sineF
  rw [e1, e2]
  unfold sinN
  by_cases c : n = 0
  · subst c; rfl
  · rw [if_neg (by omega), if_pos (by omega)]; congr 1; omega
theorem sine_up {n : Nat} (h : n ≤ 64) : sineF (n : Int) = quart n := by
  have e1 : ang (n : Int) = n := ang_id (by omega)
  unfold sineF
  rw [e1]; simp [sinN, h]
end Go.Proofs.Ytdncopphjamilaa.Vx
