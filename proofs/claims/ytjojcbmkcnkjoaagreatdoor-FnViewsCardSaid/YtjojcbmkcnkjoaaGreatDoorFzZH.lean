/- Functions of the library, out of the kit's shelf: the place of a byte in a text. -/
import Derived.Test.YtjojcbmkcnkjoaaGreatDoorFzZF
import Derived.Shelf.Small.Strs
set_option linter.all false
namespace Go.Fx
open Go.RowKit Go.Proofs
section
variable {P : Program}
end
end Go.Fx
