/- Numbers that are read: the reference. -/
import Derived.Test.YtjhddlkfkicpaaaGreatDoorTr
namespace Go.Proofs.YtjhddlkfkicpaaaGreatDoor.Vx
open Go Go.RowKit Fl Hex16
set_option maxRecDepth 100000
set_option maxHeartbeats 4000000
set_option linter.unusedSimpArgs false
set_option linter.unusedVariables false
def srF (t : List UInt8) : Nat := if t.length = 8 then (s16 0 t).getD 0 else 0
theorem srF_num {t : List UInt8} {u : Nat} (h : num t = some u) : srF t = u := by
  obtain ⟨h1, h2, h3⟩ := num_iff.1 h
  have : s16 0 t = some u := by rw [h1]; exact s16_hexN 8 u (by omega)
  rw [srF, if_pos (by rw [h1, hexN_len]), this]; rfl
end Go.Proofs.YtjhddlkfkicpaaaGreatDoor.Vx
