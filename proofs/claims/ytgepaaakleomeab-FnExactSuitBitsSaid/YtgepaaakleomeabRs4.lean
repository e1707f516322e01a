/- Rooms, in the abstract: the law on the bits of desks that suit. -/
import Derived.Test.YtgepaaakleomeabRs0
import Derived.Test.YtgepaaakleomeabRs1
import Derived.Test.YtgepaaakleomeabRs2
import Derived.Test.YtgepaaakleomeabRs3
namespace Go.Proofs.Ytgepaaakleomeab.Vx
open Go Go.RowKit Fl
set_option maxRecDepth 100000
set_option maxHeartbeats 2000000
set_option linter.unusedSimpArgs false
set_option linter.unusedVariables false

theorem pers_rows {n : Nat} {f : Nat → List FV} (h : ∀ i, i < n → RowK [.f .f32, .f .f32, .f .f32] (f i)) : ∃ ps : Nat → Psn, ∀ i, i < n → f i = (ps i).fv := by
  refine ⟨fun i => ⟨cN f 0 i, cN f 1 i, cN f 2 i⟩, fun i hi => ?_⟩
  obtain ⟨x0, r, e, k0, h⟩ := rowK_cons (h i hi)
  obtain ⟨x1, r, rfl, k1, h⟩ := rowK_cons h
  obtain ⟨x2, r, rfl, k2, h⟩ := rowK_cons h
  obtain rfl := rowK_nil h
  simp only [Psn.fv, cZ, cN, e, List.getD_cons_zero, List.getD_cons_succ]
  rw [← ck_f k0, ← ck_f k1, ← ck_f k2]
theorem FnExactSuitBits_c (a b : Int) (v : Value) (n cap : Nat) (f : Nat → List FV) (v0 : Value) (m capm : Nat) (g : Nat → List FV) (v1 : Value) (q capq : Nat) (u : Nat → List FV)  (W : World) (ha : -128 ≤ a ∧ a ≤ 127) (hb : -128 ≤ b ∧ b ≤ 127) (hs : SlcArg W v n cap 3 f) (hk : ∀ i, i < n → RowK [.i .i8, .i .i8, .f .f32] (f i)) (hv0 : SlcArg W v0 m capm 3 g) (hk0 : ∀ i, i < m → RowK [.i .i8, .i .i8, .i .i8] (g i)) (hv1 : SlcArg W v1 q capq 3 u) (hk1 : ∀ i, i < q → RowK [.f .f32, .f .f32, .f .f32] (u i)) :
    Calls Try.prog 7 #[.agg #[.int .i8 a, .int .i8 b, v], v0, v1] W fun e w' => e = .returned (.bool true) ∧ Below W.heap.size W w' := by
  obtain ⟨us, hf, hsm⟩ := win_rows hk
  obtain ⟨ds, hg0, hs0⟩ := desk_rows hk0
  obtain ⟨ps, hg1⟩ := pers_rows hk1
  rcases hs with ⟨rfl, rfl, rfl⟩ | ⟨bb, off, rfl, hh⟩
  · rcases hv0 with ⟨rfl, rfl, rfl⟩ | ⟨bb0, off0, rfl, hh0⟩
    · rcases hv1 with ⟨rfl, rfl, rfl⟩ | ⟨bb1, off1, rfl, hh1⟩
      · exact (FnExactSuitBitsNNN_cv ⟨a, b⟩ us ⟨ha, hb⟩ ds ps).law W
      · have := (FnExactSuitBitsNNS_cv ⟨a, b⟩ us ⟨ha, hb⟩ ds ps q capq u hg1 hh1.le (Nat.le_trans hh1.le hh1.top)).lawH (hh1.holds) (fun l => by cases l <;> rfl)
        simpa [denL, den, FV.val] using this
    · rcases hv1 with ⟨rfl, rfl, rfl⟩ | ⟨bb1, off1, rfl, hh1⟩
      · have := (FnExactSuitBitsNSN_cv ⟨a, b⟩ us ⟨ha, hb⟩ ds m capm g hg0 hh0.le (Nat.le_trans hh0.le hh0.top) hs0 ps).lawH (hh0.holds) (fun l => by cases l <;> rfl)
        simpa [denL, den, FV.val] using this
      · have := (FnExactSuitBitsNSS_cv ⟨a, b⟩ us ⟨ha, hb⟩ ds m capm g hg0 hh0.le (Nat.le_trans hh0.le hh0.top) hs0 ps q capq u hg1 hh1.le (Nat.le_trans hh1.le hh1.top)).lawH (holds2 hh0 hh1) (fun l => by rcases l with _ | _ | l <;> rfl)
        simpa [denL, den, FV.val] using this
  · rcases hv0 with ⟨rfl, rfl, rfl⟩ | ⟨bb0, off0, rfl, hh0⟩
    · rcases hv1 with ⟨rfl, rfl, rfl⟩ | ⟨bb1, off1, rfl, hh1⟩
      · have := (FnExactSuitBitsSNN_cv ⟨a, b⟩ us n cap f hf hh.le (Nat.le_trans hh.le hh.top) ⟨ha, hb⟩ hsm ds ps).lawH (hh.holds) (fun l => by cases l <;> rfl)
        simpa [denL, den, FV.val] using this
      · have := (FnExactSuitBitsSNS_cv ⟨a, b⟩ us n cap f hf hh.le (Nat.le_trans hh.le hh.top) ⟨ha, hb⟩ hsm ds ps q capq u hg1 hh1.le (Nat.le_trans hh1.le hh1.top)).lawH (holds2 hh hh1) (fun l => by rcases l with _ | _ | l <;> rfl)
        simpa [denL, den, FV.val] using this
    · rcases hv1 with ⟨rfl, rfl, rfl⟩ | ⟨bb1, off1, rfl, hh1⟩
      · have := (FnExactSuitBitsSSN_cv ⟨a, b⟩ us n cap f hf hh.le (Nat.le_trans hh.le hh.top) ⟨ha, hb⟩ hsm ds m capm g hg0 hh0.le (Nat.le_trans hh0.le hh0.top) hs0 ps).lawH (holds2 hh hh0) (fun l => by rcases l with _ | _ | l <;> rfl)
        simpa [denL, den, FV.val] using this
      · have := (FnExactSuitBitsSSS_cv ⟨a, b⟩ us n cap f hf hh.le (Nat.le_trans hh.le hh.top) ⟨ha, hb⟩ hsm ds m capm g hg0 hh0.le (Nat.le_trans hh0.le hh0.top) hs0 ps q capq u hg1 hh1.le (Nat.le_trans hh1.le hh1.top)).lawH (holds3 hh hh0 hh1) (fun l => by rcases l with _ | _ | _ | l <;> rfl)
        simpa [denL, den, FV.val] using this
end Go.Proofs.Ytgepaaakleomeab.Vx
