/- Two slices as arguments; bytes. -/
import Derived.Test.YtjhddlkfkicpaaaGreatDoorDf
namespace Go.Proofs.YtjhddlkfkicpaaaGreatDoor.Vx
open Go Go.RowKit Fl

theorem bytes_at {n : Nat} {f : Nat → List FV} (h : ∀ i, i < n → RowK [.i .u8] (f i)) : BytesAt n f := fun i hi => by
  obtain ⟨x0, r, e, k0, h⟩ := rowK_cons (h i hi)
  obtain rfl := rowK_nil h
  obtain ⟨e1, e2, e3⟩ := ck_i k0
  refine ⟨fZ x0, by rw [e, ← e1], ?_⟩
  have a : IntKind.u8.min = 0 := by decide
  have b : IntKind.u8.max = 255 := by decide
  omega
theorem holdsB {w : World} {b off n cap c b2 off2 n2 cap2 c2 : Nat} {f g : Nat → List FV} (h1 : SlcAt w b off n cap c f) (h2 : SlcAt w b2 off2 n2 cap2 c2 g) (hg : Gl w) :
    Holds w (fun l => if l = 0 then ⟨b, off, c, false⟩ else ⟨b2, off2, c2, false⟩) [.rows n cap c f false, .rows n2 cap2 c2 g false] := by
  refine holds_ro (fun l => ?_) (fun l => ?_) (fun l => ?_) hg <;> (rcases l with _ | _ | l)
  · exact h1.blk _
  · exact h2.blk _
  · exact dead_ok _ _ _
  · rfl
  · rfl
  · rfl
  · trivial
  · trivial
  · trivial
end Go.Proofs.YtjhddlkfkicpaaaGreatDoor.Vx
