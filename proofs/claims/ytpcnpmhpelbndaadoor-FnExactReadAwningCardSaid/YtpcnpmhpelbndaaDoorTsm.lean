/- What a world's shape tells of a variable of the library. -/
import Derived.Test.YtpcnpmhpelbndaaDoorTs
import Derived.Shelf.LaysM
namespace Go.Proofs
open Go.Shelf
shelf_lay LaysM.n146 Nm 146 at Tryd as Tryd.laysM146
end Go.Proofs
