/- The text of an awning. -/
import Derived.Test.YtjhddlkfkicpaaaGreatDoorTc
namespace Go.Proofs.YtjhddlkfkicpaaaGreatDoor.Vx
open Go Go.RowKit Fl
set_option maxRecDepth 100000
set_option maxHeartbeats 4000000
set_option linter.unusedSimpArgs false
set_option linter.unusedVariables false
abbrev tawnV (o d g l : Nat) : SV := .agg [.f (.flt .f32 o), .f (.flt .f32 d), .f (.flt .f32 g), .f (.flt .f32 l)]
abbrev tawnR (o d g l : Nat) : List SV := [.f (.flt .f32 o), .f (.flt .f32 d), .f (.flt .f32 g), .f (.flt .f32 l)]
/-- The text of a valid awning. -/
def awnT (a b c d : Nat) : List UInt8 := hexN (tbits a) 8 ++ [32] ++ hexN (tbits b) 8 ++ [32] ++ hexN (tbits c) 8 ++ [32] ++ hexN (tbits d) 8
def n4 (a b c d : Nat) (k : Nat) : List UInt8 :=
  match k with
  | 0 => hexN (tbits a) 8
  | 1 => hexN (tbits b) 8
  | 2 => hexN (tbits c) 8
  | _ => hexN (tbits d) 8
theorem awnT_join (a b c d : Nat) : Lib.join ((List.range 4).map (n4 a b c d)) [32] = awnT a b c d := by
  have e : (List.range 4).map (n4 a b c d) = [hexN (tbits a) 8, hexN (tbits b) 8, hexN (tbits c) 8, hexN (tbits d) 8] := rfl
  rw [e, Lib.join_cons]
  simp [Lib.joinTail, awnT]
theorem awnT_len (a b c d : Nat) : (awnT a b c d).length = 35 := by simp [awnT, hexN_len]
def awnS (a b c d : Nat) : List UInt8 := if vAwning a b c d then awnT a b c d else []
end Go.Proofs.YtjhddlkfkicpaaaGreatDoor.Vx
