/- The law FnExactChangesIn: for all its arguments the program answers as the reference does; no condition. -/
import Derived.Test.YtggamjjgdahaaacCx
import Derived.Test.YtggamjjgdahaaacFlat
import Derived.Laws.Cover2
namespace Go.Proofs.Ytggamjjgdahaaac.LawChangesIn
open Go.ChangeShapes Go.WideShapes Go.ChangeAt Go.RowKit
set_option linter.unusedVariables false
theorem own : ownKnob Try.prog.godebug = none := by kernel_rfl
theorem laidOut : laidOutB Try.prog = true := by kernel_rfl

set_option maxRecDepth 100000 in
theorem lifted (os : Os) (started : os.Started) (H : Type) (enc : TypeId × Value → H) :
    ReturnsInHanded {} Try.checked os 9 .any (Rows.fnExactChangesInSpec.pre6 enc Try.prog Try.f9 Rows.fnExactChangesInRow.domain false) (Rows.fnExactChangesInSpec.post enc Try.prog Try.f9 false true false false) := by
  refine returnsInHanded_of_change (C := Try.checked) own started (by kernel_rfl) Try.func9
    (ChangeSpec.witness6 (enc := enc) (C := Try.checked) false ⟨#[], #[.agg #[.float .f32 0, .float .f32 0, .float .f32 0, .int .i8 0, .int .i8 0, .int .i8 0], .agg #[.int .i8 0, .float .f32 0, .float .f32 0, .int .i16 0, .float .f32 0], .agg #[.int .i16 0, .int .i8 0, .int .i8 0], .slice none 0 0], []⟩ 8 (by kernel_rfl) (by kernel_rfl) (by kernel_rfl) (by kernel_rfl)) ?_
  intro W base args ds gs before hval0 hW hcnd _
  have hval : ∀ (j : Nat) t v, Try.f9.params[j]? = some t → args[j]? = some v → Value.okWide Try.prog W .any base t v := hval0
  have hW' := hW
  obtain ⟨p, q, hA0, hV, rfl, hfz, hnd⟩ := hW
  have hA : DataW.TrodAll enc Try.prog W 0 (fun _ => true) true Try.f9.params.toList args.toList ds p := hA0
  rw [Try.params9] at hA hval
  obtain ⟨v0, vs0, d0, ds0, p0, q0, hargs, rfl, rfl, h0, r0⟩ := trodAll_cons hA
  obtain ⟨v1, vs1, d1, ds1, p1, q1, rfl, rfl, rfl, h1, r1⟩ := trodAll_cons r0
  obtain ⟨v2, vs2, d2, ds2, p2, q2, rfl, rfl, rfl, h2, r2⟩ := trodAll_cons r1
  obtain ⟨v3, vs3, d3, ds3, p3, q3, rfl, rfl, rfl, h3, r3⟩ := trodAll_cons r2
  obtain ⟨rfl, rfl, rfl⟩ := trodAll_nil r3
  obtain rfl : args = #[v0, v1, v2, v3] := by cases args; simp_all
  obtain ⟨rfl, rfl⟩ := trodVars_none hV
  have k0 := h0
  have lt0 : ∀ x ∈ p0, x.block < W.heap.size := by obtain ⟨m, hm⟩ := k0; exact DataW.trod_lt m _ _ _ hm
  obtain ⟨l0, rfl, c0⟩ := open_flat (P := Try.prog) (ks := [.f .f32, .f .f32, .f .f32, .i .i8, .i .i8, .i .i8]) Try.underlying45 (by kernel_rfl) (hval 0 45 v0 rfl rfl) h0
  obtain ⟨ux0_0, ux0_1, ux0_2, ux0_3, ux0_4, ux0_5, rfl, ox0_0, ox0_1, ox0_2, ox0_3, ox0_4, ox0_5⟩ := CKs6 c0
  obtain ⟨x0_0, rfl, bx0_0⟩ := okf ox0_0
  obtain ⟨x0_1, rfl, bx0_1⟩ := okf ox0_1
  obtain ⟨x0_2, rfl, bx0_2⟩ := okf ox0_2
  obtain ⟨x0_3, rfl, bx0_3⟩ := oki8 ox0_3
  obtain ⟨x0_4, rfl, bx0_4⟩ := oki8 ox0_4
  obtain ⟨x0_5, rfl, bx0_5⟩ := oki8 ox0_5
  have k1 := h1
  have lt1 : ∀ x ∈ p1, x.block < W.heap.size := by obtain ⟨m, hm⟩ := k1; exact DataW.trod_lt m _ _ _ hm
  obtain ⟨l1, rfl, c1⟩ := open_flat (P := Try.prog) (ks := [.i .i8, .f .f32, .f .f32, .i .i16, .f .f32]) Try.underlying26 (by kernel_rfl) (hval 1 26 v1 rfl rfl) h1
  obtain ⟨ux1_0, ux1_1, ux1_2, ux1_3, ux1_4, rfl, ox1_0, ox1_1, ox1_2, ox1_3, ox1_4⟩ := CKs5 c1
  obtain ⟨x1_0, rfl, bx1_0⟩ := oki8 ox1_0
  obtain ⟨x1_1, rfl, bx1_1⟩ := okf ox1_1
  obtain ⟨x1_2, rfl, bx1_2⟩ := okf ox1_2
  obtain ⟨x1_3, rfl, bx1_3⟩ := oki16 ox1_3
  obtain ⟨x1_4, rfl, bx1_4⟩ := okf ox1_4
  have k2 := h2
  have lt2 : ∀ x ∈ p2, x.block < W.heap.size := by obtain ⟨m, hm⟩ := k2; exact DataW.trod_lt m _ _ _ hm
  obtain ⟨l2, rfl, c2⟩ := open_flat (P := Try.prog) (ks := [.i .i16, .i .i8, .i .i8]) Try.underlying47 (by kernel_rfl) (hval 2 47 v2 rfl rfl) h2
  obtain ⟨ux2_0, ux2_1, ux2_2, rfl, ox2_0, ox2_1, ox2_2⟩ := CKs3 c2
  obtain ⟨x2_0, rfl, bx2_0⟩ := oki16 ox2_0
  obtain ⟨x2_1, rfl, bx2_1⟩ := oki8 ox2_1
  obtain ⟨x2_2, rfl, bx2_2⟩ := oki8 ox2_2
  have k3 := h3
  have lt3 : ∀ x ∈ p3, x.block < W.heap.size := by obtain ⟨m, hm⟩ := k3; exact DataW.trod_lt m _ _ _ hm
  obtain ⟨n3, cap3, f3, hs3, hk3⟩ := Vx.open_slcV (P := Try.prog) (ks := [.f .f32, .f .f32, .i .i8]) Try.underlying66 (by kernel_rfl) (by kernel_rfl) (by decide) (hval 3 66 v3 rfl rfl) h3
  clear hA0 hval0
  refine (Vx.FnExactChangesIn_c ⟨x0_0, x0_1, x0_2, x0_3, x0_4, x0_5⟩ ⟨x1_0, x1_1, x1_2, x1_3, x1_4⟩ ⟨x2_0, x2_1, x2_2⟩ v3 n3 cap3 f3 W ⟨bx0_3, bx0_4, bx0_5⟩ ⟨bx1_0, bx1_3⟩ ⟨bx2_0, bx2_1, bx2_2⟩ hs3 hk3).mono fun e W' ⟨he, bel⟩ => ?_
  subst he
  exact ⟨_, rfl, _, _, _, [], _, [], hW', trodAll_mk1 (shut_bool Try.underlying4 _), (trodAll_cons_mk (Below.trod laidOut (by kernel_rfl) (of_decide_eq_true (by kernel_rfl)) k0 bel lt0) (trodAll_cons_mk (Below.trod laidOut (by kernel_rfl) (of_decide_eq_true (by kernel_rfl)) k1 bel lt1) (trodAll_cons_mk (Below.trod laidOut (by kernel_rfl) (of_decide_eq_true (by kernel_rfl)) k2 bel lt2) (trodAll_cons_mk (Below.trod laidOut (by kernel_rfl) (of_decide_eq_true (by kernel_rfl)) k3 bel lt3) trodAll_mk0)))), rfl, bel.frame _, fun h => by cases h⟩

theorem over : Rows.fnExactChangesInRow.holds Try.pinned (OpenSpec.ofChange Rows.fnExactChangesInSpec) :=
  OpenClaim.holds_of_wide 9 Try.f9 rfl rfl rfl rfl rfl rfl rfl ⟨rfl, rfl, rfl, rfl, rfl⟩ rfl rfl rfl rfl rfl (by kernel_rfl) Try.func9 (by kernel_rfl)
    (of_decide_eq_true (by kernel_rfl)) (by unfold Func.isWrapper; first | (rw [if_pos (by decide +kernel)]; kernel_rfl) | (rw [if_neg (by decide +kernel)]; exact ⟨rfl, rfl⟩))
    (fun os started H enc _ => lifted os started H enc)

theorem proved : Rows.FnExactChangesInSaid := over
#print axioms proved
end Go.Proofs.Ytggamjjgdahaaac.LawChangesIn
