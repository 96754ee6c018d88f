/- A region that draws its order, held by a condition on the world that need not hold behind the region's last operation (number z). No condition. -/
import Derived.OrdersHeld
import Derived.StillTail
import Derived.Deep.RegionHeld3
import Derived.Deep.RegionLawGrows
import Derived.Test.YtnidcoinfmcffaaDoorBase
namespace Go.Proofs.YtnidcoinfmcffaaDoor
open Go.RowKit

section
variable {P : Program} {ops : Array Oper} {Q : Exit → Act → World → Prop} {S : World → Prop} {z : Nat}
end
end Go.Proofs.YtnidcoinfmcffaaDoor
