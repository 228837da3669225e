/- Same: two facts compared, by the program and by the reference. -/
import Derived.Test.YtfiabonacpepnaaGreatDoorFkE
namespace Go.Proofs.YtfiabonacpepnaaGreatDoor.Fb
open Go Go.RowKit Go.Lib Go.Shelf Go.Maps

end Go.Proofs.YtfiabonacpepnaaGreatDoor.Fb
