/- The library's contracts at this program: strings.Builder's methods, strconv.FormatInt at base 10: laid out of the shelf. -/
import Derived.Shelf.Strings.Builder1
import Derived.Shelf.LaysM
import Derived.Shelf.Strconv.Itoa4
import Derived.Test.YtdienbcjfljjnaaGreatDoorProg
namespace Go.Proofs
open Go.Shelf
end Go.Proofs
