/-
  The library's contracts at this program's numbers: strings.IndexByte, strings.Builder (WriteByte, WriteString, String). Laid over the kit's shelf.
-/
import Derived.Shelf.Small.Strs
import Derived.Shelf.Strings.BuilderK
import Derived.Test.YthcahjnniendnabGreatDoorProg
namespace Go.Proofs.YthcahjnniendnabGreatDoor
open Go.Shelf Go.RowKit

end Go.Proofs.YthcahjnniendnabGreatDoor
