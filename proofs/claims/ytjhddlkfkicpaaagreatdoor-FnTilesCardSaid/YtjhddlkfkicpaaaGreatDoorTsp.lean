/- Contracts of the shelf for texts that are read, laid at this program. -/
import Derived.Test.YtjhddlkfkicpaaaGreatDoorTs
import Derived.Shelf.Strings.Split
import Derived.Shelf.Pu.ParseUintPublic10
import Derived.Ground.MpProg
namespace Go.Proofs
open Go.Shelf
shelf_lay Lays.n146 Nm 146 at Tryz as Tryz.lays146
shelf_lay LaysPu.n14 Mp 14 at Tryz as Tryz.laysPu14
end Go.Proofs
