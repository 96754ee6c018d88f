/- Plain: the best antichain has as many things as the cover has chains. No condition. -/
import Derived.Test.YtnidcoinfmcffaaDoorOsY
import Derived.Test.YtnidcoinfmcffaaDoorOqB
namespace Go.Proofs.YtnidcoinfmcffaaDoor
end Go.Proofs.YtnidcoinfmcffaaDoor
