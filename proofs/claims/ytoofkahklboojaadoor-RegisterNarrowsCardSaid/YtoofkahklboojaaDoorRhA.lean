/- Register, in plain words: a survey with something changed. No condition. -/
import Derived.Test.YtoofkahklboojaaDoorRkC
namespace Go.Proofs.YtoofkahklboojaaDoor

def bentD (l : List DotD) (how n at_ : Int) : List DotD :=
  if l.length = 0 then [⟨n, 0, 0, 0⟩] else
  let k := (pickR at_ l.length).toNat
  if pickR how 5 = 0 then l.set k { l.getD k dot0 with id := n }
  else if pickR how 5 = 1 then l.set k { l.getD k dot0 with x := n }
  else if pickR how 5 = 2 then l.set k { l.getD k dot0 with y := n }
  else if pickR how 5 = 3 then l.set k { l.getD k dot0 with tol := n }
  else l ++ [⟨(l.getD (l.length - 1) dot0).id + 1, n, 0, 0⟩]
end Go.Proofs.YtoofkahklboojaaDoor
