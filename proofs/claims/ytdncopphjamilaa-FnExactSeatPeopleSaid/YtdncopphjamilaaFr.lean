/- The walk's laws for float32: comparisons, sum, difference, product, quotient, conversions, min, a store; over any program. -/
import Derived.Test.YtdncopphjamilaaFa
import Derived.WalkKit
import Derived.Laws.Cover1
namespace Go.Proofs.Ytdncopphjamilaa.Fl
open Go Ieee

section
variable {P : Program} (w : World)

@[go_sem] theorem run_store_float (a : Addr) (m : Mode) (k : FloatKind) (b : Nat) : (store a (.float k b) m).run P w = stored P w a (.float k b) m := run_store P w a _ m rfl

@[go_sem] theorem f_eql (t : TypeId) (a b : Nat) : binOp .eql t (.float .f32 a) (.float .f32 b) = pure (.bool (feq a b)) := by simp [binOp, Op.floatCmp, feq, FloatKind.format]
@[go_sem] theorem f_neq (t : TypeId) (a b : Nat) : binOp .neq t (.float .f32 a) (.float .f32 b) = pure (.bool (!feq a b)) := by simp [binOp, Op.floatCmp, feq, FloatKind.format, bne]
@[go_sem] theorem f_lss (t : TypeId) (a b : Nat) : binOp .lss t (.float .f32 a) (.float .f32 b) = pure (.bool (flt a b)) := by simp [binOp, Op.floatCmp, flt, FloatKind.format]
@[go_sem] theorem f_leq (t : TypeId) (a b : Nat) : binOp .leq t (.float .f32 a) (.float .f32 b) = pure (.bool (fle a b)) := by simp [binOp, Op.floatCmp, fle, FloatKind.format]
@[go_sem] theorem f_gtr (t : TypeId) (a b : Nat) : binOp .gtr t (.float .f32 a) (.float .f32 b) = pure (.bool (flt b a)) := by simp only [binOp, Op.floatCmp, ← gt_eq]; rfl
@[go_sem] theorem f_geq (t : TypeId) (a b : Nat) : binOp .geq t (.float .f32 a) (.float .f32 b) = pure (.bool (fle b a)) := by simp only [binOp, Op.floatCmp, ← ge_eq]; rfl

@[go_sem] theorem f_add (t : TypeId) (a b : Nat) (h : AddOk a b) : (binOp .add t (.float .f32 a) (.float .f32 b)).run P w = .ok (.float .f32 (fadd a b)) w := by
  have := h.run; simp [binOp, Op.floatArith, FloatKind.format, this]
@[go_sem] theorem f_sub (t : TypeId) (a b : Nat) (h : SubOk a b) : (binOp .sub t (.float .f32 a) (.float .f32 b)).run P w = .ok (.float .f32 (fsub a b)) w := by
  have := h.run; simp [binOp, Op.floatArith, FloatKind.format, this]
@[go_sem] theorem f_mul (t : TypeId) (a b : Nat) (h : MulOk a b) : (binOp .mul t (.float .f32 a) (.float .f32 b)).run P w = .ok (.float .f32 (fmul a b)) w := by
  have := h.run; simp [binOp, Op.floatArith, FloatKind.format, this]
@[go_sem] theorem f_quo (t : TypeId) (a b : Nat) (h : DivOk a b) : (binOp .quo t (.float .f32 a) (.float .f32 b)).run P w = .ok (.float .f32 (fdiv a b)) w := by
  have := h.run; simp [binOp, Op.floatArith, FloatKind.format, this]

/-- 'float32(n)'. -/
def fofInt (n : Int) : Nat := FloatKind.f32.nearest n
@[go_sem] theorem f_ofInt (src dst : TypeId) (q : IntKind) (n : Int) (hs : (P.underlying src).isSome = true) (hd : P.underlying dst = some (.float .f32)) :
    (convert src dst (.int q n)).run P w = .ok (.float .f32 (fofInt n)) w := by
  obtain ⟨s, hs'⟩ := Option.isSome_iff_exists.1 hs
  cases s <;> simp [convert, run_underlying hs', run_underlying hd, Conv.intToFloat, fofInt]
/-- 'float32(x)' of a float32. -/
@[go_sem] theorem f_same (src dst : TypeId) (b : Nat) (hs : (P.underlying src).isSome = true) (hd : P.underlying dst = some (.float .f32)) :
    (convert src dst (.float .f32 b)).run P w = .ok (.float .f32 b) w := by
  obtain ⟨s, hs'⟩ := Option.isSome_iff_exists.1 hs
  cases s <;> simp [convert, run_underlying hs', run_underlying hd, Conv.floatToFloat]
end

end Go.Proofs.Ytdncopphjamilaa.Fl
