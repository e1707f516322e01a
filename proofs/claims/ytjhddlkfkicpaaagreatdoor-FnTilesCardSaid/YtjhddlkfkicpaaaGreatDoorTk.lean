/- Contracts of the shelf for rooms that are read, laid at this program. -/
import Derived.Test.YtjhddlkfkicpaaaGreatDoorTsp
import Derived.Shelf.Strings.Cut
import Derived.Shelf.Strconv.ErrVarParseInt
import Derived.Shelf.Small.Strs
namespace Go.Proofs
open Go.Shelf
shelf_lay Lays.n145 Nm 145 at Tryz as Tryz.lays145
shelf_lay Lays.n137 Nm 137 at Tryz as Tryz.lays137
shelf_lay LaysC.n174 Nm 174 at Tryz as Tryz.laysC174
end Go.Proofs
