/- Walks of the law's example and of its sane. No condition. -/
import Derived.Test.YtppfdjjhloaopaaPw14
import Derived.Test.YtppfdjjhloaopaaPw15
import Derived.Test.YtppfdjjhloaopaaBlkI
namespace Go.Proofs.Ytppfdjjhloaopaa
open Go.RowKit

def exP : ProgD := ⟨3, [⟨0, 0, 0, 0, [2, 3, 1], 5⟩, ⟨0, 0, 0, 0, [1, 0, 1], 1⟩], [5, 4, 3]⟩
def ExQ (w : World) (e : Ending) (w' : World) : Prop :=
  ∃ b c, e = .returned (.agg #[.int .i64 3, .slice (some ⟨b, 0, none⟩) 2 2, .slice (some ⟨c, 0, none⟩) 3 3]) ∧ RowsIn (frm w.heap.size w') (.slice (some ⟨b, 0, none⟩) 2 2) exP.rows ∧ IntsIn (frm w.heap.size w') (.slice (some ⟨c, 0, none⟩) 3 3) exP.gain ∧ Below w.heap.size w w'
end Go.Proofs.Ytppfdjjhloaopaa
