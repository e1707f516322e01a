/- What a world's shape tells of a variable of the library. -/
import Derived.Test.YtjhddlkfkicpaaaGreatDoorTs
import Derived.Shelf.LaysM
namespace Go.Proofs
open Go.Shelf
shelf_lay LaysM.n146 Nm 146 at Tryz as Tryz.laysM146
end Go.Proofs
