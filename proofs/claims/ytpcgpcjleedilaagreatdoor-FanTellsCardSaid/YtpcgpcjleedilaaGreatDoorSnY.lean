/- The reference of states: in, node. -/
import Derived.Test.YtpcgpcjleedilaaGreatDoorPlFh
import Derived.Shelf.GgClosure.StringsIndexFuncTop
import Derived.Lib.SpaceUEq
import Derived.Test.YtpcgpcjleedilaaGreatDoorFaA
import Derived.Test.YtpcgpcjleedilaaGreatDoorPlI
import Derived.Shelf.GgClosureLib.Lays
import Derived.Lib.LaidTab
import Derived.ChangeBears2
import Derived.Deep.Cut
import Derived.Test.YtpcgpcjleedilaaGreatDoorTake
import Derived.Test.YtpcgpcjleedilaaGreatDoorPlW
import Derived.Deep.RegionHeld3
import Derived.Deep.CutRange
import Derived.Test.YtpcgpcjleedilaaGreatDoorSnC
open Go.RowKit Go.Shelf
namespace Go.Proofs.YtpcgpcjleedilaaGreatDoor
open Go Go.Proofs Fm

theorem info_ndY2 : (Tryz.prog.info? 46).map (·.size) = some 16 := by kernel_rfl

end Go.Proofs.YtpcgpcjleedilaaGreatDoor
