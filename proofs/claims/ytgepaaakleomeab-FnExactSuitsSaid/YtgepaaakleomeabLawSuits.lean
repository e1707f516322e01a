/- The law FnExactSuits: for all its arguments the program answers as the reference does; no condition. -/
import Derived.Test.YtgepaaakleomeabRkl
import Derived.Test.YtgepaaakleomeabFlat
import Derived.Laws.Cover2
namespace Go.Proofs.Ytgepaaakleomeab.LawSuits
open Go.ChangeShapes Go.WideShapes Go.ChangeAt Go.RowKit
set_option linter.unusedVariables false
theorem own : ownKnob Try.prog.godebug = none := by kernel_rfl
theorem laidOut : laidOutB Try.prog = true := by kernel_rfl

set_option maxRecDepth 100000 in
theorem lifted (os : Os) (started : os.Started) (H : Type) (enc : TypeId × Value → H) :
    ReturnsInHanded {} Try.checked os 6 .any (Rows.fnExactSuitsSpec.pre6 enc Try.prog Try.f6 Rows.fnExactSuitsRow.domain false) (Rows.fnExactSuitsSpec.post enc Try.prog Try.f6 false true false false) := by
  refine returnsInHanded_of_change (C := Try.checked) own started (by kernel_rfl) Try.func6
    (ChangeSpec.witness6 (enc := enc) (C := Try.checked) false ⟨#[], #[.agg #[.int .i8 0, .int .i8 0, .slice none 0 0], .agg #[.int .i8 0, .int .i8 0, .int .i8 0], .agg #[.float .f32 0, .float .f32 0, .float .f32 0]], []⟩ 8 (by kernel_rfl) (by kernel_rfl) (by kernel_rfl) (by kernel_rfl)) ?_
  intro W base args ds gs before hval0 hW hcnd _
  have hval : ∀ (j : Nat) t v, Try.f6.params[j]? = some t → args[j]? = some v → Value.okWide Try.prog W .any base t v := hval0
  have hW' := hW
  obtain ⟨p, q, hA0, hV, rfl, hfz, hnd⟩ := hW
  have hA : DataW.TrodAll enc Try.prog W 0 (fun _ => true) true Try.f6.params.toList args.toList ds p := hA0
  rw [Try.params6] at hA hval
  obtain ⟨v0, vs0, d0, ds0, p0, q0, hargs, rfl, rfl, h0, r0⟩ := trodAll_cons hA
  obtain ⟨v1, vs1, d1, ds1, p1, q1, rfl, rfl, rfl, h1, r1⟩ := trodAll_cons r0
  obtain ⟨v2, vs2, d2, ds2, p2, q2, rfl, rfl, rfl, h2, r2⟩ := trodAll_cons r1
  obtain ⟨rfl, rfl, rfl⟩ := trodAll_nil r2
  obtain rfl : args = #[v0, v1, v2] := by cases args; simp_all
  obtain ⟨rfl, rfl⟩ := trodVars_none hV
  have k0 := h0
  have lt0 : ∀ x ∈ p0, x.block < W.heap.size := by obtain ⟨m, hm⟩ := k0; exact DataW.trod_lt m _ _ _ hm
  obtain ⟨a0, b0, x0, n0, cap0, f0, rfl, ba0, bb0, hs0, hk0⟩ := Vx.open_room (P := Try.prog) (ks := [.i .i8, .i .i8, .f .f32]) Try.underlying25 (by kernel_rfl) Try.underlying22 Try.underlying22 Try.underlying23 rfl rfl rfl (by kernel_rfl) (by kernel_rfl) (by kernel_rfl) (by kernel_rfl) (by decide) (hval 0 25 v0 rfl rfl) h0
  have k1 := h1
  have lt1 : ∀ x ∈ p1, x.block < W.heap.size := by obtain ⟨m, hm⟩ := k1; exact DataW.trod_lt m _ _ _ hm
  obtain ⟨l1, rfl, c1⟩ := open_flat (P := Try.prog) (ks := [.i .i8, .i .i8, .i .i8]) Try.underlying43 (by kernel_rfl) (hval 1 43 v1 rfl rfl) h1
  obtain ⟨ux1_0, ux1_1, ux1_2, rfl, ox1_0, ox1_1, ox1_2⟩ := CKs3 c1
  obtain ⟨x1_0, rfl, bx1_0⟩ := oki8 ox1_0
  obtain ⟨x1_1, rfl, bx1_1⟩ := oki8 ox1_1
  obtain ⟨x1_2, rfl, bx1_2⟩ := oki8 ox1_2
  have k2 := h2
  have lt2 : ∀ x ∈ p2, x.block < W.heap.size := by obtain ⟨m, hm⟩ := k2; exact DataW.trod_lt m _ _ _ hm
  obtain ⟨l2, rfl, c2⟩ := open_flat (P := Try.prog) (ks := [.f .f32, .f .f32, .f .f32]) Try.underlying60 (by kernel_rfl) (hval 2 60 v2 rfl rfl) h2
  obtain ⟨ux2_0, ux2_1, ux2_2, rfl, ox2_0, ox2_1, ox2_2⟩ := CKs3 c2
  obtain ⟨x2_0, rfl, bx2_0⟩ := okf ox2_0
  obtain ⟨x2_1, rfl, bx2_1⟩ := okf ox2_1
  obtain ⟨x2_2, rfl, bx2_2⟩ := okf ox2_2
  clear hA0 hval0
  refine (Vx.FnExactSuits_c a0 b0 ⟨x1_0, x1_1, x1_2⟩ ⟨x2_0, x2_1, x2_2⟩ x0 n0 cap0 f0 W ba0 bb0 ⟨⟨bx1_0, bx1_1⟩, bx1_2⟩ hs0 hk0).mono fun e W' ⟨he, bel⟩ => ?_
  subst he
  exact ⟨_, rfl, _, _, _, [], _, [], hW', trodAll_mk1 (shut_bool Try.underlying4 _), (trodAll_cons_mk (Below.trod laidOut (by kernel_rfl) (of_decide_eq_true (by kernel_rfl)) k0 bel lt0) (trodAll_cons_mk (Below.trod laidOut (by kernel_rfl) (of_decide_eq_true (by kernel_rfl)) k1 bel lt1) (trodAll_cons_mk (Below.trod laidOut (by kernel_rfl) (of_decide_eq_true (by kernel_rfl)) k2 bel lt2) trodAll_mk0))), rfl, bel.frame _, fun h => by cases h⟩

theorem over : Rows.fnExactSuitsRow.holds Try.pinned (OpenSpec.ofChange Rows.fnExactSuitsSpec) :=
  OpenClaim.holds_of_wide 6 Try.f6 rfl rfl rfl rfl rfl rfl rfl ⟨rfl, rfl, rfl, rfl, rfl⟩ rfl rfl rfl rfl rfl (by kernel_rfl) Try.func6 (by kernel_rfl)
    (of_decide_eq_true (by kernel_rfl)) (by unfold Func.isWrapper; first | (rw [if_pos (by decide +kernel)]; kernel_rfl) | (rw [if_neg (by decide +kernel)]; exact ⟨rfl, rfl⟩))
    (fun os started H enc _ => lifted os started H enc)

theorem proved : Rows.FnExactSuitsSaid := over
#print axioms proved
end Go.Proofs.Ytgepaaakleomeab.LawSuits
