/- Walks of Sum and Broken of package program. Conditions: how the arguments lie in memory. -/
import Derived.Test.YtppfdjjhloaopaaPw5
import Derived.Test.YtppfdjjhloaopaaOwn
namespace Go.Proofs.Ytppfdjjhloaopaa
open Go.RowKit

end Go.Proofs.Ytppfdjjhloaopaa
