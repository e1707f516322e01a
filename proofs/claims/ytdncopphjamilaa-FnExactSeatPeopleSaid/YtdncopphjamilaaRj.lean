/- Rooms, in the abstract: rows of desks, blocks of several slices. -/
import Derived.Test.YtdncopphjamilaaRg
import Derived.Test.YtdncopphjamilaaRy
namespace Go.Proofs.Ytdncopphjamilaa.Vx
open Go Go.RowKit Fl
set_option maxRecDepth 100000
set_option maxHeartbeats 2000000
set_option linter.unusedSimpArgs false
set_option linter.unusedVariables false

theorem desk_rows {n : Nat} {f : Nat → List FV} (h : ∀ i, i < n → RowK [.i .i8, .i .i8, .i .i8] (f i)) : ∃ ds : Nat → Dsk, (∀ i, i < n → f i = (ds i).fv) ∧ ∀ i, i < n → (ds i).sm := by
  refine ⟨fun i => ⟨cZ f 0 i, cZ f 1 i, cZ f 2 i⟩, fun i hi => ?_, fun i hi => ?_⟩
  all_goals (
    obtain ⟨x0, r, e, k0, h⟩ := rowK_cons (h i hi)
    obtain ⟨x1, r, rfl, k1, h⟩ := rowK_cons h
    obtain ⟨x2, r, rfl, k2, h⟩ := rowK_cons h
    obtain rfl := rowK_nil h)
  · simp only [Dsk.fv, cZ, cN, e, List.getD_cons_zero, List.getD_cons_succ]
    rw [← (ck_i k0).1, ← (ck_i k1).1, ← (ck_i k2).1]
  · have a := ck_i k0
    have b := ck_i k1
    have c := ck_i k2
    simp only [Dsk.sm, cZ, e, List.getD_cons_zero, List.getD_cons_succ]
    exact ⟨⟨a.2, b.2⟩, c.2⟩
theorem holds2 {w : World} {b off n cap c b2 off2 n2 cap2 c2 : Nat} {f g : Nat → List FV} (h1 : SlcAt w b off n cap c f) (h2 : SlcAt w b2 off2 n2 cap2 c2 g) :
    Holds w (fun l => if l = 0 then ⟨b, off, c⟩ else ⟨b2, off2, c2⟩) [.rows n cap c f false, .rows n2 cap2 c2 g false] := by
  refine holds_ro (fun l => ?_) (fun l => ?_) fun l => ?_ <;> (rcases l with _ | _ | l)
  · exact h1.blk _
  · exact h2.blk _
  · exact dead_ok _ _ _
  · rfl
  · rfl
  · rfl
  · trivial
  · trivial
  · trivial
theorem holds3 {w : World} {b off n cap c b2 off2 n2 cap2 c2 b3 off3 n3 cap3 c3 : Nat} {f g u : Nat → List FV} (h1 : SlcAt w b off n cap c f) (h2 : SlcAt w b2 off2 n2 cap2 c2 g) (h3 : SlcAt w b3 off3 n3 cap3 c3 u) :
    Holds w (fun l => if l = 0 then ⟨b, off, c⟩ else if l = 1 then ⟨b2, off2, c2⟩ else ⟨b3, off3, c3⟩) [.rows n cap c f false, .rows n2 cap2 c2 g false, .rows n3 cap3 c3 u false] := by
  refine holds_ro (fun l => ?_) (fun l => ?_) fun l => ?_ <;> (rcases l with _ | _ | _ | l)
  · exact h1.blk _
  · exact h2.blk _
  · exact h3.blk _
  · exact dead_ok _ _ _
  · rfl
  · rfl
  · rfl
  · rfl
  · trivial
  · trivial
  · trivial
  · trivial
end Go.Proofs.Ytdncopphjamilaa.Vx
