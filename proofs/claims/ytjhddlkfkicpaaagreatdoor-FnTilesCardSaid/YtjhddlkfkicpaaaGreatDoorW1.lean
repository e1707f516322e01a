/- Walks: validity of awnings, states, keepers, ticks, controls, and sameness of awnings and controls; the laws on these. -/
import Derived.Test.YtjhddlkfkicpaaaGreatDoorN
import Derived.Test.YtjhddlkfkicpaaaGreatDoorB
namespace Go.Proofs.YtjhddlkfkicpaaaGreatDoor
open Go.ChangeShapes Go.WideShapes Go.ChangeAt Go.RowKit Fl

def vAwning (a : Nat) (b : Nat) (c : Nat) (d : Nat) : Bool := btw a 0 1090519040 && btw b 0 1073741824 && btw c 0 1073741824 && btw d 1040187392 1082130432
def vState (a : Int) (b : Int) (c : Int) : Bool := inn a (-64) 64 && inn b 0 20 && inn c 0 20
def vTick (a : Nat) (b : Nat) (c : Int) : Bool := isPart a && isPart b && inn c 1 64
def sameAwning (a : Nat) (b : Nat) (c : Nat) (d : Nat) (a' : Nat) (b' : Nat) (c' : Nat) (d' : Nat) : Bool := sameF a a' && sameF b b' && sameF c c' && sameF d d'
def vKeeper (a : Nat) (b : Nat) (c : Int) : Bool := isFineF a && isFineF b && fle b a && inn c 1 24

end Go.Proofs.YtjhddlkfkicpaaaGreatDoor
